/- ChIG: several of my texts in one. -/
import Derived.Test.YtpfnnjcochhklaaGreatDoorChImpl2
import Derived.Lib.OthersKept

/- Characters: steady, fits. -/
namespace Go.Proofs.YtpfnnjcochhklaaGreatDoor
open Go.RowKit
set_option maxRecDepth 100000 in
set_option maxHeartbeats 1000000 in
theorem isSteady_c (A : Option Addr) (n c : Nat) (x : Ch) (w : World) (sl : Sl w w.heap.size 1 A n (x.gs.flatMap intC)) (_ : n ≤ 1048576) (_ : x.l.size ≤ 1048576) (_ : x.cs.size ≤ 1048576) :
    Calls Tryz.prog 147 #[chV x.k A n c x.l x.cs x.p] w fun e w' => e = .returned (.bool (steadyB x)) ∧ Below w.heap.size w w' := by
  have hl := sl.len intC 1 intC_len (by omega)
  have hg : decide (x.gs = []) = ((n : Int) == 0) := by
    rw [Bool.eq_iff_iff]; simp [← hl, List.length_eq_zero_iff]
  have hst : steadyB x = ((x.k == 1) || ((decide (x.k = 6) || decide (x.k = 7)) && ((n : Int) == 0))) := by
    rw [steadyB, hg, show decide (x.k = 1) = (x.k == 1) by rw [Bool.eq_iff_iff]; simp]
  have Hl := Lib.hid hl; clear hl
  have Hg := Lib.hid hg; clear hg
  rw [hst]
  have Hst := Lib.hid hst; clear hst
  go_enter Tryz.func147, Tryz.ntmps147
  go_wp2_with (go_at_call 161; refine (isQuick_c _ _).mono ?_; rintro e w1 ⟨rfl, rfl⟩)
  all_goals
    go_ret
    refine ⟨ret_eq (bool_eq ?_), by (repeat (first | (with_reducible assumption) | (with_reducible exact Below.refl _ _) | exact Nat.le_refl _ | exact Below.size (by with_reducible assumption) | (with_reducible refine Below.drew ?_) | (with_reducible refine below_drewN ?_ _) | (with_reducible refine Below.alloc ?_ ?_ _) | (with_reducible refine Below.setCell ?_ ?_ _) | (with_reducible refine le_alloc ?_ _) | (with_reducible refine le_set ?_ _ _) | (with_reducible refine le_drew ?_) | (with_reducible refine le_drewN ?_ _) | omega | (dsimp only; omega)))⟩
    rw [Bool.eq_iff_iff]
    try simp_all
theorem signsV_E (l : ByteArray) : (signsV l).toList.isEmpty = !letterB l := by
  unfold signsV
  cases h : letterB l
  · simp
  · have h1 : letterB l = true := h
    simp only [letterB, Bool.and_eq_true, decide_eq_true_eq] at h1
    have hm := morse_size (bt l 0 - 65).toNat (by omega)
    have := isE_no (s := morse (bt l 0 - 65).toNat) (by omega)
    simpa using this
theorem groupB_nil : groupB [] = true := rfl
theorem groupB_one (y : Int) : groupB [y] = inB y 2 9 := by
  rw [Bool.eq_iff_iff, inB_iff]
  simp [groupB, allB, goodG, inB]
  omega
set_option maxRecDepth 100000 in
set_option maxHeartbeats 1000000 in
theorem fits_c (A : Option Addr) (n c : Nat) (x : Ch) (w : World) (sl : Sl w w.heap.size 1 A n (x.gs.flatMap intC)) (hn : n ≤ 1048576) (hlz : x.l.size ≤ 1048576) (hs : x.cs.size ≤ 1048576) :
    Calls Tryz.prog 146 #[chV x.k A n c x.l x.cs x.p] w fun e w' => e = .returned (.bool (fitsB x)) ∧ Below w.heap.size w w' := by
  have hl := sl.len intC 1 intC_len (by omega)
  have hg : decide (x.gs = []) = ((n : Int) == 0) := by
    rw [Bool.eq_iff_iff]; simp [← hl, List.length_eq_zero_iff]
  have Hl := Lib.hid hl; clear hl
  obtain ⟨k, gs, l, cs, p⟩ := x
  simp only at sl hlz hs hg
  have Hl : Hid (gs.length = n) := Hl
  by_cases hk : 1 ≤ k ∧ k ≤ 8
  · rcases (show k = 1 ∨ k = 2 ∨ k = 3 ∨ k = 4 ∨ k = 5 ∨ k = 6 ∨ k = 7 ∨ k = 8 by omega) with rfl | rfl | rfl | rfl | rfl | rfl | rfl | rfl
    · have hf : fitsB ⟨1, gs, l, cs, p⟩ = (((n : Int) == 0) && l.toList.isEmpty) := by rw [← hg]; simp [fitsB, isE]
      rw [hf]
      have Hf := Lib.hid hf; clear hf
      have Hg := Lib.hid hg; clear hg
      cases hE : l.toList.isEmpty
      all_goals
        cases hz : ((n : Int) == 0)
      all_goals
        go_enter Tryz.func146, Tryz.ntmps146
        go_wp2
        go_ret
        exact ⟨rfl, by (repeat (first | (with_reducible assumption) | (with_reducible exact Below.refl _ _) | exact Nat.le_refl _ | exact Below.size (by with_reducible assumption) | (with_reducible refine Below.drew ?_) | (with_reducible refine below_drewN ?_ _) | (with_reducible refine Below.alloc ?_ ?_ _) | (with_reducible refine Below.setCell ?_ ?_ _) | (with_reducible refine le_alloc ?_ _) | (with_reducible refine le_set ?_ _ _) | (with_reducible refine le_drew ?_) | (with_reducible refine le_drewN ?_ _) | omega | (dsimp only; omega)))⟩
    · have hf : fitsB ⟨2, gs, l, cs, p⟩ = (l.toList.isEmpty && groupB gs) := by simp [fitsB, isE]
      rw [hf]
      have Hf := Lib.hid hf; clear hf
      have Hg := Lib.hid hg; clear hg
      cases hE : l.toList.isEmpty
      · go_enter Tryz.func146, Tryz.ntmps146
        go_wp2
        go_ret
        exact ⟨rfl, by (repeat (first | (with_reducible assumption) | (with_reducible exact Below.refl _ _) | exact Nat.le_refl _ | exact Below.size (by with_reducible assumption) | (with_reducible refine Below.drew ?_) | (with_reducible refine below_drewN ?_ _) | (with_reducible refine Below.alloc ?_ ?_ _) | (with_reducible refine Below.setCell ?_ ?_ _) | (with_reducible refine le_alloc ?_ _) | (with_reducible refine le_set ?_ _ _) | (with_reducible refine le_drew ?_) | (with_reducible refine le_drewN ?_ _) | omega | (dsimp only; omega)))⟩
      · go_enter Tryz.func146, Tryz.ntmps146
        go_wp2_with (go_at_call 158; refine (isGroup_c A n c gs _ (sl.next (by (repeat (first | (with_reducible assumption) | (with_reducible exact Below.refl _ _) | exact Nat.le_refl _ | exact Below.size (by with_reducible assumption) | (with_reducible refine Below.drew ?_) | (with_reducible refine below_drewN ?_ _) | (with_reducible refine Below.alloc ?_ ?_ _) | (with_reducible refine Below.setCell ?_ ?_ _) | (with_reducible refine le_alloc ?_ _) | (with_reducible refine le_set ?_ _ _) | (with_reducible refine le_drew ?_) | (with_reducible refine le_drewN ?_ _) | omega | (dsimp only; omega))))) hn).mono ?_; rintro e w1 ⟨rfl, hb1⟩)
        go_ret
        exact ⟨rfl, Below.trans (by (repeat (first | (with_reducible assumption) | (with_reducible exact Below.refl _ _) | exact Nat.le_refl _ | exact Below.size (by with_reducible assumption) | (with_reducible refine Below.drew ?_) | (with_reducible refine below_drewN ?_ _) | (with_reducible refine Below.alloc ?_ ?_ _) | (with_reducible refine Below.setCell ?_ ?_ _) | (with_reducible refine le_alloc ?_ _) | (with_reducible refine le_set ?_ _ _) | (with_reducible refine le_drew ?_) | (with_reducible refine le_drewN ?_ _) | omega | (dsimp only; omega)))) (hb1.mono (by simp))⟩
    · have hf : fitsB ⟨3, gs, l, cs, p⟩ = (((n : Int) == 0) && l.toList.isEmpty) := by rw [← hg]; simp [fitsB, isE]
      rw [hf]
      have Hf := Lib.hid hf; clear hf
      have Hg := Lib.hid hg; clear hg
      cases hE : l.toList.isEmpty
      all_goals
        cases hz : ((n : Int) == 0)
      all_goals
        go_enter Tryz.func146, Tryz.ntmps146
        go_wp2
        go_ret
        exact ⟨rfl, by (repeat (first | (with_reducible assumption) | (with_reducible exact Below.refl _ _) | exact Nat.le_refl _ | exact Below.size (by with_reducible assumption) | (with_reducible refine Below.drew ?_) | (with_reducible refine below_drewN ?_ _) | (with_reducible refine Below.alloc ?_ ?_ _) | (with_reducible refine Below.setCell ?_ ?_ _) | (with_reducible refine le_alloc ?_ _) | (with_reducible refine le_set ?_ _ _) | (with_reducible refine le_drew ?_) | (with_reducible refine le_drewN ?_ _) | omega | (dsimp only; omega)))⟩
    · have hf : fitsB ⟨4, gs, l, cs, p⟩ = (l.toList.isEmpty && groupB gs) := by simp [fitsB, isE]
      rw [hf]
      have Hf := Lib.hid hf; clear hf
      have Hg := Lib.hid hg; clear hg
      cases hE : l.toList.isEmpty
      · go_enter Tryz.func146, Tryz.ntmps146
        go_wp2
        go_ret
        exact ⟨rfl, by (repeat (first | (with_reducible assumption) | (with_reducible exact Below.refl _ _) | exact Nat.le_refl _ | exact Below.size (by with_reducible assumption) | (with_reducible refine Below.drew ?_) | (with_reducible refine below_drewN ?_ _) | (with_reducible refine Below.alloc ?_ ?_ _) | (with_reducible refine Below.setCell ?_ ?_ _) | (with_reducible refine le_alloc ?_ _) | (with_reducible refine le_set ?_ _ _) | (with_reducible refine le_drew ?_) | (with_reducible refine le_drewN ?_ _) | omega | (dsimp only; omega)))⟩
      · go_enter Tryz.func146, Tryz.ntmps146
        go_wp2_with (go_at_call 158; refine (isGroup_c A n c gs _ (sl.next (by (repeat (first | (with_reducible assumption) | (with_reducible exact Below.refl _ _) | exact Nat.le_refl _ | exact Below.size (by with_reducible assumption) | (with_reducible refine Below.drew ?_) | (with_reducible refine below_drewN ?_ _) | (with_reducible refine Below.alloc ?_ ?_ _) | (with_reducible refine Below.setCell ?_ ?_ _) | (with_reducible refine le_alloc ?_ _) | (with_reducible refine le_set ?_ _ _) | (with_reducible refine le_drew ?_) | (with_reducible refine le_drewN ?_ _) | omega | (dsimp only; omega))))) hn).mono ?_; rintro e w1 ⟨rfl, hb1⟩)
        go_ret
        exact ⟨rfl, Below.trans (by (repeat (first | (with_reducible assumption) | (with_reducible exact Below.refl _ _) | exact Nat.le_refl _ | exact Below.size (by with_reducible assumption) | (with_reducible refine Below.drew ?_) | (with_reducible refine below_drewN ?_ _) | (with_reducible refine Below.alloc ?_ ?_ _) | (with_reducible refine Below.setCell ?_ ?_ _) | (with_reducible refine le_alloc ?_ _) | (with_reducible refine le_set ?_ _ _) | (with_reducible refine le_drew ?_) | (with_reducible refine le_drewN ?_ _) | omega | (dsimp only; omega)))) (hb1.mono (by simp))⟩
    · have hf : fitsB ⟨5, gs, l, cs, p⟩ = (l.toList.isEmpty && groupB gs) := by simp [fitsB, isE]
      rw [hf]
      have Hf := Lib.hid hf; clear hf
      have Hg := Lib.hid hg; clear hg
      cases hE : l.toList.isEmpty
      · go_enter Tryz.func146, Tryz.ntmps146
        go_wp2
        go_ret
        exact ⟨rfl, by (repeat (first | (with_reducible assumption) | (with_reducible exact Below.refl _ _) | exact Nat.le_refl _ | exact Below.size (by with_reducible assumption) | (with_reducible refine Below.drew ?_) | (with_reducible refine below_drewN ?_ _) | (with_reducible refine Below.alloc ?_ ?_ _) | (with_reducible refine Below.setCell ?_ ?_ _) | (with_reducible refine le_alloc ?_ _) | (with_reducible refine le_set ?_ _ _) | (with_reducible refine le_drew ?_) | (with_reducible refine le_drewN ?_ _) | omega | (dsimp only; omega)))⟩
      · go_enter Tryz.func146, Tryz.ntmps146
        go_wp2_with (go_at_call 158; refine (isGroup_c A n c gs _ (sl.next (by (repeat (first | (with_reducible assumption) | (with_reducible exact Below.refl _ _) | exact Nat.le_refl _ | exact Below.size (by with_reducible assumption) | (with_reducible refine Below.drew ?_) | (with_reducible refine below_drewN ?_ _) | (with_reducible refine Below.alloc ?_ ?_ _) | (with_reducible refine Below.setCell ?_ ?_ _) | (with_reducible refine le_alloc ?_ _) | (with_reducible refine le_set ?_ _ _) | (with_reducible refine le_drew ?_) | (with_reducible refine le_drewN ?_ _) | omega | (dsimp only; omega))))) hn).mono ?_; rintro e w1 ⟨rfl, hb1⟩)
        go_ret
        exact ⟨rfl, Below.trans (by (repeat (first | (with_reducible assumption) | (with_reducible exact Below.refl _ _) | exact Nat.le_refl _ | exact Below.size (by with_reducible assumption) | (with_reducible refine Below.drew ?_) | (with_reducible refine below_drewN ?_ _) | (with_reducible refine Below.alloc ?_ ?_ _) | (with_reducible refine Below.setCell ?_ ?_ _) | (with_reducible refine le_alloc ?_ _) | (with_reducible refine le_set ?_ _ _) | (with_reducible refine le_drew ?_) | (with_reducible refine le_drewN ?_ _) | omega | (dsimp only; omega)))) (hb1.mono (by simp))⟩
    · cases hE : l.toList.isEmpty
      · have hf : fitsB ⟨6, gs, l, cs, p⟩ = ((l.toList == [76]) && decide (gs = [6])) := by
          simp only [fitsB, isE, isL]; simp [hE]
          rw [Bool.eq_iff_iff]; simp
        rw [hf]
        have Hf := Lib.hid hf; clear hf
        have Hg := Lib.hid hg; clear hg
        cases hL : (l.toList == [76])
        · go_enter Tryz.func146, Tryz.ntmps146
          go_wp2
          go_ret
          exact ⟨rfl, by (repeat (first | (with_reducible assumption) | (with_reducible exact Below.refl _ _) | exact Nat.le_refl _ | exact Below.size (by with_reducible assumption) | (with_reducible refine Below.drew ?_) | (with_reducible refine below_drewN ?_ _) | (with_reducible refine Below.alloc ?_ ?_ _) | (with_reducible refine Below.setCell ?_ ?_ _) | (with_reducible refine le_alloc ?_ _) | (with_reducible refine le_set ?_ _ _) | (with_reducible refine le_drew ?_) | (with_reducible refine le_drewN ?_ _) | omega | (dsimp only; omega)))⟩
        · go_enter Tryz.func146, Tryz.ntmps146
          go_wp2_with fail
          have hs6 := Sl.new (w.alloc (.cells #[.int .i64 6, .slice A n c, .string l, .string cs, .int .i64 p] 53)) 2 [.int .i64 6] 1 1 rfl
          simp only [World.size_alloc] at hs6
          refine (equalInt_c _ _ _ _ _ _ gs [6] _ (sl.next (by (repeat (first | (with_reducible assumption) | (with_reducible exact Below.refl _ _) | exact Nat.le_refl _ | exact Below.size (by with_reducible assumption) | (with_reducible refine Below.drew ?_) | (with_reducible refine below_drewN ?_ _) | (with_reducible refine Below.alloc ?_ ?_ _) | (with_reducible refine Below.setCell ?_ ?_ _) | (with_reducible refine le_alloc ?_ _) | (with_reducible refine le_set ?_ _ _) | (with_reducible refine le_drew ?_) | (with_reducible refine le_drewN ?_ _) | omega | (dsimp only; omega))))) (by simpa [intC] using hs6) (by unfold maxLen; omega) (by simp [maxLen])).mono ?_
          rintro e w1 ⟨rfl, hb1⟩
          go_wp2_with fail
          go_ret
          exact ⟨rfl, Below.trans (by (repeat (first | (with_reducible assumption) | (with_reducible exact Below.refl _ _) | exact Nat.le_refl _ | exact Below.size (by with_reducible assumption) | (with_reducible refine Below.drew ?_) | (with_reducible refine below_drewN ?_ _) | (with_reducible refine Below.alloc ?_ ?_ _) | (with_reducible refine Below.setCell ?_ ?_ _) | (with_reducible refine le_alloc ?_ _) | (with_reducible refine le_set ?_ _ _) | (with_reducible refine le_drew ?_) | (with_reducible refine le_drewN ?_ _) | omega | (dsimp only; omega)))) (hb1.mono (by simp only [World.size_alloc]; omega))⟩
      · have hL : (l.toList == [76]) = false := by
          have : l.toList = [] := by simpa using hE
          rw [this]; rfl
        have hf : fitsB ⟨6, gs, l, cs, p⟩ = (decide (gs.length ≤ 1) && groupB gs) := by
          simp only [fitsB, isE, isL]; simp [hE, hL]
        by_cases hn1 : n = 1
        · subst hn1
          obtain ⟨g0, hgx⟩ : ∃ x, gs = [x] := List.length_eq_one_iff.1 Hl.out
          obtain ⟨b2, off2, x', rfl, hbb, hx, d1⟩ := sl.int 0 (by omega)
          have hxx : x' = g0 := by rw [hgx] at hx; simpa using hx.symm
          subst hxx
          have hf2 : fitsB ⟨6, gs, l, cs, p⟩ = inB x' 2 9 := by rw [hf, hgx, groupB_one]; rfl
          rw [Nat.add_zero] at d1
          rw [hf2]
          clear hx hgx hf hf2
          have Hg := Lib.hid hg; clear hg
          go_enter Tryz.func146, Tryz.ntmps146
          go_wp2_with (go_at_call 124; refine (within_c _ _ _ _).mono ?_; rintro e w1 ⟨rfl, rfl⟩)
          go_ret
          exact ⟨rfl, by (repeat (first | (with_reducible assumption) | (with_reducible exact Below.refl _ _) | exact Nat.le_refl _ | exact Below.size (by with_reducible assumption) | (with_reducible refine Below.drew ?_) | (with_reducible refine below_drewN ?_ _) | (with_reducible refine Below.alloc ?_ ?_ _) | (with_reducible refine Below.setCell ?_ ?_ _) | (with_reducible refine le_alloc ?_ _) | (with_reducible refine le_set ?_ _ _) | (with_reducible refine le_drew ?_) | (with_reducible refine le_drewN ?_ _) | omega | (dsimp only; omega)))⟩
        · have hf2 : fitsB ⟨6, gs, l, cs, p⟩ = ((n : Int) == 0) := by
            rw [hf, Hl.out, ← hg]
            by_cases h0 : gs = []
            · have hl := Hl.out
              rw [h0] at hl ⊢
              simp at hl
              subst hl
              rw [groupB_nil]; simp
            · have : gs.length ≠ 0 := fun e => h0 (List.eq_nil_of_length_eq_zero e)
              rw [Hl.out] at this
              rw [decide_eq_false (by omega : ¬ n ≤ 1), decide_eq_false h0]; rfl
          have hk1 : ((n : Int) == 1) = false := by simp; omega
          rw [hf2]
          clear hf hf2
          have Hg := Lib.hid hg; clear hg
          cases hz : ((n : Int) == 0)
          all_goals
            go_enter Tryz.func146, Tryz.ntmps146
            go_wp2
            go_ret
            exact ⟨rfl, by (repeat (first | (with_reducible assumption) | (with_reducible exact Below.refl _ _) | exact Nat.le_refl _ | exact Below.size (by with_reducible assumption) | (with_reducible refine Below.drew ?_) | (with_reducible refine below_drewN ?_ _) | (with_reducible refine Below.alloc ?_ ?_ _) | (with_reducible refine Below.setCell ?_ ?_ _) | (with_reducible refine le_alloc ?_ _) | (with_reducible refine le_set ?_ _ _) | (with_reducible refine le_drew ?_) | (with_reducible refine le_drewN ?_ _) | omega | (dsimp only; omega)))⟩
    · cases hE : l.toList.isEmpty
      · have hf : fitsB ⟨7, gs, l, cs, p⟩ = ((l.toList == [76]) && decide (gs = [6])) := by
          simp only [fitsB, isE, isL]; simp [hE]
          rw [Bool.eq_iff_iff]; simp
        rw [hf]
        have Hf := Lib.hid hf; clear hf
        have Hg := Lib.hid hg; clear hg
        cases hL : (l.toList == [76])
        · go_enter Tryz.func146, Tryz.ntmps146
          go_wp2
          go_ret
          exact ⟨rfl, by (repeat (first | (with_reducible assumption) | (with_reducible exact Below.refl _ _) | exact Nat.le_refl _ | exact Below.size (by with_reducible assumption) | (with_reducible refine Below.drew ?_) | (with_reducible refine below_drewN ?_ _) | (with_reducible refine Below.alloc ?_ ?_ _) | (with_reducible refine Below.setCell ?_ ?_ _) | (with_reducible refine le_alloc ?_ _) | (with_reducible refine le_set ?_ _ _) | (with_reducible refine le_drew ?_) | (with_reducible refine le_drewN ?_ _) | omega | (dsimp only; omega)))⟩
        · go_enter Tryz.func146, Tryz.ntmps146
          go_wp2_with fail
          have hs6 := Sl.new (w.alloc (.cells #[.int .i64 7, .slice A n c, .string l, .string cs, .int .i64 p] 53)) 2 [.int .i64 6] 1 1 rfl
          simp only [World.size_alloc] at hs6
          refine (equalInt_c _ _ _ _ _ _ gs [6] _ (sl.next (by (repeat (first | (with_reducible assumption) | (with_reducible exact Below.refl _ _) | exact Nat.le_refl _ | exact Below.size (by with_reducible assumption) | (with_reducible refine Below.drew ?_) | (with_reducible refine below_drewN ?_ _) | (with_reducible refine Below.alloc ?_ ?_ _) | (with_reducible refine Below.setCell ?_ ?_ _) | (with_reducible refine le_alloc ?_ _) | (with_reducible refine le_set ?_ _ _) | (with_reducible refine le_drew ?_) | (with_reducible refine le_drewN ?_ _) | omega | (dsimp only; omega))))) (by simpa [intC] using hs6) (by unfold maxLen; omega) (by simp [maxLen])).mono ?_
          rintro e w1 ⟨rfl, hb1⟩
          go_wp2_with fail
          go_ret
          exact ⟨rfl, Below.trans (by (repeat (first | (with_reducible assumption) | (with_reducible exact Below.refl _ _) | exact Nat.le_refl _ | exact Below.size (by with_reducible assumption) | (with_reducible refine Below.drew ?_) | (with_reducible refine below_drewN ?_ _) | (with_reducible refine Below.alloc ?_ ?_ _) | (with_reducible refine Below.setCell ?_ ?_ _) | (with_reducible refine le_alloc ?_ _) | (with_reducible refine le_set ?_ _ _) | (with_reducible refine le_drew ?_) | (with_reducible refine le_drewN ?_ _) | omega | (dsimp only; omega)))) (hb1.mono (by simp only [World.size_alloc]; omega))⟩
      · have hL : (l.toList == [76]) = false := by
          have : l.toList = [] := by simpa using hE
          rw [this]; rfl
        have hf : fitsB ⟨7, gs, l, cs, p⟩ = (decide (gs.length ≤ 1) && groupB gs) := by
          simp only [fitsB, isE, isL]; simp [hE, hL]
        by_cases hn1 : n = 1
        · subst hn1
          obtain ⟨g0, hgx⟩ : ∃ x, gs = [x] := List.length_eq_one_iff.1 Hl.out
          obtain ⟨b2, off2, x', rfl, hbb, hx, d1⟩ := sl.int 0 (by omega)
          have hxx : x' = g0 := by rw [hgx] at hx; simpa using hx.symm
          subst hxx
          have hf2 : fitsB ⟨7, gs, l, cs, p⟩ = inB x' 2 9 := by rw [hf, hgx, groupB_one]; rfl
          rw [Nat.add_zero] at d1
          rw [hf2]
          clear hx hgx hf hf2
          have Hg := Lib.hid hg; clear hg
          go_enter Tryz.func146, Tryz.ntmps146
          go_wp2_with (go_at_call 124; refine (within_c _ _ _ _).mono ?_; rintro e w1 ⟨rfl, rfl⟩)
          go_ret
          exact ⟨rfl, by (repeat (first | (with_reducible assumption) | (with_reducible exact Below.refl _ _) | exact Nat.le_refl _ | exact Below.size (by with_reducible assumption) | (with_reducible refine Below.drew ?_) | (with_reducible refine below_drewN ?_ _) | (with_reducible refine Below.alloc ?_ ?_ _) | (with_reducible refine Below.setCell ?_ ?_ _) | (with_reducible refine le_alloc ?_ _) | (with_reducible refine le_set ?_ _ _) | (with_reducible refine le_drew ?_) | (with_reducible refine le_drewN ?_ _) | omega | (dsimp only; omega)))⟩
        · have hf2 : fitsB ⟨7, gs, l, cs, p⟩ = ((n : Int) == 0) := by
            rw [hf, Hl.out, ← hg]
            by_cases h0 : gs = []
            · have hl := Hl.out
              rw [h0] at hl ⊢
              simp at hl
              subst hl
              rw [groupB_nil]; simp
            · have : gs.length ≠ 0 := fun e => h0 (List.eq_nil_of_length_eq_zero e)
              rw [Hl.out] at this
              rw [decide_eq_false (by omega : ¬ n ≤ 1), decide_eq_false h0]; rfl
          have hk1 : ((n : Int) == 1) = false := by simp; omega
          rw [hf2]
          clear hf hf2
          have Hg := Lib.hid hg; clear hg
          cases hz : ((n : Int) == 0)
          all_goals
            go_enter Tryz.func146, Tryz.ntmps146
            go_wp2
            go_ret
            exact ⟨rfl, by (repeat (first | (with_reducible assumption) | (with_reducible exact Below.refl _ _) | exact Nat.le_refl _ | exact Below.size (by with_reducible assumption) | (with_reducible refine Below.drew ?_) | (with_reducible refine below_drewN ?_ _) | (with_reducible refine Below.alloc ?_ ?_ _) | (with_reducible refine Below.setCell ?_ ?_ _) | (with_reducible refine le_alloc ?_ _) | (with_reducible refine le_set ?_ _ _) | (with_reducible refine le_drew ?_) | (with_reducible refine le_drewN ?_ _) | omega | (dsimp only; omega)))⟩
    · have hf : fitsB ⟨8, gs, l, cs, p⟩ = (((n : Int) == 0) && letterB l) := by rw [← hg]; simp [fitsB]
      have hsg := signsV_E l
      rw [hf]
      have Hf := Lib.hid hf; clear hf
      have Hg := Lib.hid hg; clear hg
      cases hE : letterB l
      all_goals
        rw [hE] at hsg
        simp only [Bool.not_true, Bool.not_false] at hsg
        cases hz : ((n : Int) == 0)
      all_goals
        go_enter Tryz.func146, Tryz.ntmps146
        go_wp2_with (go_at_call 160; refine (signsOf_c _ _ (by unfold maxLen; omega)).mono ?_; rintro e w1 ⟨rfl, rfl⟩)
        go_ret
        exact ⟨rfl, by (repeat (first | (with_reducible assumption) | (with_reducible exact Below.refl _ _) | exact Nat.le_refl _ | exact Below.size (by with_reducible assumption) | (with_reducible refine Below.drew ?_) | (with_reducible refine below_drewN ?_ _) | (with_reducible refine Below.alloc ?_ ?_ _) | (with_reducible refine Below.setCell ?_ ?_ _) | (with_reducible refine le_alloc ?_ _) | (with_reducible refine le_set ?_ _ _) | (with_reducible refine le_drew ?_) | (with_reducible refine le_drewN ?_ _) | omega | (dsimp only; omega)))⟩
  · have hf : fitsB ⟨k, gs, l, cs, p⟩ = false := by
      rw [fitsB]
      simp only
      rw [if_neg (by omega), if_neg (by omega), if_neg (by omega), if_neg (by omega)]
    rw [hf]
    have k1 : (k == 1) = false := by simp; omega
    have k2 : (k == 2) = false := by simp; omega
    have k3 : (k == 3) = false := by simp; omega
    have k4 : (k == 4) = false := by simp; omega
    have k5 : (k == 5) = false := by simp; omega
    have k6 : (k == 6) = false := by simp; omega
    have k7 : (k == 7) = false := by simp; omega
    have k8 : (k == 8) = false := by simp; omega
    clear hf hk
    have Hg := Lib.hid hg; clear hg
    go_enter Tryz.func146, Tryz.ntmps146
    go_wp2
    go_ret
    exact ⟨rfl, by (repeat (first | (with_reducible assumption) | (with_reducible exact Below.refl _ _) | exact Nat.le_refl _ | exact Below.size (by with_reducible assumption) | (with_reducible refine Below.drew ?_) | (with_reducible refine below_drewN ?_ _) | (with_reducible refine Below.alloc ?_ ?_ _) | (with_reducible refine Below.setCell ?_ ?_ _) | (with_reducible refine le_alloc ?_ _) | (with_reducible refine le_set ?_ _ _) | (with_reducible refine le_drew ?_) | (with_reducible refine le_drewN ?_ _) | omega | (dsimp only; omega)))⟩
end Go.Proofs.YtpfnnjcochhklaaGreatDoor

/- Characters: the program's times. -/
namespace Go.Proofs.YtpfnnjcochhklaaGreatDoor
open Go.RowKit
theorem morse_sign (j : Nat) (hj : j < 26) : ∀ i, i < (morse j).size → bt (morse j) i = 45 ∨ bt (morse j) i = 46 :=
  match j, hj with
  | 0, _ => by decide | 1, _ => by decide | 2, _ => by decide | 3, _ => by decide | 4, _ => by decide | 5, _ => by decide | 6, _ => by decide | 7, _ => by decide | 8, _ => by decide | 9, _ => by decide | 10, _ => by decide | 11, _ => by decide | 12, _ => by decide | 13, _ => by decide | 14, _ => by decide | 15, _ => by decide | 16, _ => by decide | 17, _ => by decide | 18, _ => by decide | 19, _ => by decide | 20, _ => by decide | 21, _ => by decide | 22, _ => by decide | 23, _ => by decide | 24, _ => by decide | 25, _ => by decide
  | n + 26, h => absurd h (by omega)
theorem rhythm8_c (w : World) : Calls Tryz.prog 162 #[.int .i64 8] w fun e w' => e = .returned (.tuple #[.int .i64 5, .int .i64 5, .int .i64 30]) ∧ w = w' := rhythm_c 8 w
theorem signsV_M {l : ByteArray} (h1 : l.size = 1) (h2 : 65 ≤ bt l 0) (h3 : bt l 0 ≤ 90) : signsV l = morse (bt l 0 - 65).toNat := by
  have : letterB l = true := by simp [letterB, h1, h2, h3]
  rw [signsV, this]; rfl
/-- An iterator that moves on leaves a row that is owned. -/
theorem own_iterAt {w : World} {base : Nat} {e : TypeId} {sz n g : Nat} {v : Value} {xs : List Value} {s : ByteArray} {pos : Nat} (h : w.ownsRow base e sz v n xs) (hne : v.ownBlock ≠ some g) : (w.iterAt g s pos).ownsRow base e sz v n xs := by
  refine ⟨h.1, ?_⟩
  rcases h.2 with hn | ⟨g', cap, cur, hv, hbg, hg, rest⟩
  · exact .inl hn
  · have hkg : g' ≠ g := by
      intro e1
      exact hne (by rw [hv, e1]; rfl)
    exact .inr ⟨g', cap, cur, hv, hbg, (Lib.iterAt_other w g g' s pos hkg).trans hg, rest⟩
theorem iter_kept {wr w2 : World} {g : Nat} {o x : Obj} {row : Option Nat} (hit : wr.heap[g]? = some o) (hg : (wr.alloc x).grownBy w2 row) (hne : row ≠ some g) : w2.heap[g]? = some o := by
  have hlt : g < wr.heap.size := (Array.getElem?_eq_some_iff.1 hit).1
  rw [hg.block g (Nat.lt_of_lt_of_le hlt (le_alloc (Nat.le_refl _) _)) (Ne.symm hne), Lib.alloc_old wr x g hlt]
  exact hit
set_option maxRecDepth 100000 in
set_option maxHeartbeats 2000000 in
theorem timesM_c (A : Option Addr) (n c : Nat) (x : Ch) (w : World) (sl : Sl w w.heap.size 1 A n (x.gs.flatMap intC)) (_ : n ≤ 1048576) (hlz : x.l.size ≤ 1048576) (hs : x.cs.size ≤ 1048576) (hk8 : x.k = 8) (ht : TOk x) :
    Calls Tryz.prog 164 #[chV x.k A n c x.l x.cs x.p] w fun e w' => ∃ v, e = .returned v ∧ w'.ownsRow w.heap.size 2 1 v (timesL x).length ((timesL x).flatMap intC) ∧ Below w.heap.size w w' := by
  obtain ⟨p0, hp, hy0, hy1, hy2⟩ := info_parts intInfo
  obtain ⟨hl1, hlo, hhi⟩ := ht.mo hk8
  have htl : timesL x = mT (morse (letN x)) (morse (letN x)).size := by rw [timesL, if_pos hk8]
  have hlt26 : letN x < 26 := by unfold letN; omega
  have hms := morse_size (letN x) hlt26
  have hmb := morse_sign (letN x) hlt26
  have hsv := signsV_M hl1 hlo hhi
  rw [show (bt x.l 0 - 65).toNat = letN x from rfl] at hsv
  rw [htl]
  obtain ⟨k, gs, l, cs, p⟩ := x
  simp only at hk8 hl1 hlo hhi hsv sl hlz hs
  subst hk8
  generalize morse (letN ⟨8, gs, l, cs, p⟩) = s at *
  have hbx : ∀ i, (w.alloc (.cells #[.int .i64 8, .slice A n c, .string l, .string cs, .int .i64 p] 53)).cell? ⟨w.heap.size, i, none⟩ = #[Value.int .i64 8, .slice A n c, .string l, .string cs, .int .i64 p][i]? := fun i => cell_of_row _ w.heap.size i _ 53 (0, 0) (heap_alloc_new w _)
  have hb0 : Below w.heap.size w (w.alloc (.cells #[.int .i64 8, .slice A n c, .string l, .string cs, .int .i64 p] 53)) := by (repeat (first | (with_reducible assumption) | (with_reducible exact Below.refl _ _) | exact Nat.le_refl _ | exact Below.size (by with_reducible assumption) | (with_reducible refine Below.drew ?_) | (with_reducible refine below_drewN ?_ _) | (with_reducible refine Below.alloc ?_ ?_ _) | (with_reducible refine Below.setCell ?_ ?_ _) | (with_reducible refine le_alloc ?_ _) | (with_reducible refine le_set ?_ _ _) | (with_reducible refine le_drew ?_) | (with_reducible refine le_drewN ?_ _) | omega | (dsimp only; omega)))
  have Htl := Lib.hid htl; clear htl
  have Hl1 := Lib.hid hl1; clear hl1
  go_enter Tryz.func164, Tryz.ntmps164
  go_wp2_with (first | (go_at_call 162; refine (rhythm8_c _).mono ?_; rintro e w1 ⟨rfl, rfl⟩) | (go_at_call 160; refine (signsOf_c _ _ (by unfold maxLen; omega)).mono ?_; rintro e w1 ⟨rfl, rfl⟩; rw [hsv]))
  have hov : ((w.alloc (.cells #[.int .i64 8, .slice A n c, .string l, .string cs, .int .i64 p] 53)).alloc (.cells #[] 2)).ownsRow w.heap.size 2 1 (.slice (some ⟨w.heap.size + 1, 0, none⟩) 0 0) 0 (([] : List Int).flatMap intC) := by
    have := World.ownsRow_made (base := w.heap.size) (e := 2) (size := 1) (w.alloc (.cells #[.int .i64 8, .slice A n c, .string l, .string cs, .int .i64 p] 53)) #[] 0 (by simp) (by simp [maxLen]) rfl
    simpa using this
  have hit0 := World.iter_heap ((w.alloc (.cells #[.int .i64 8, .slice A n c, .string l, .string cs, .int .i64 p] 53)).alloc (.cells #[] 2)) s 0
  have hbw0 : Below w.heap.size w (((w.alloc (.cells #[.int .i64 8, .slice A n c, .string l, .string cs, .int .i64 p] 53)).alloc (.cells #[] 2)).iter s 0) := by
    unfold World.iter
    (repeat (first | (with_reducible assumption) | (with_reducible exact Below.refl _ _) | exact Nat.le_refl _ | exact Below.size (by with_reducible assumption) | (with_reducible refine Below.drew ?_) | (with_reducible refine below_drewN ?_ _) | (with_reducible refine Below.alloc ?_ ?_ _) | (with_reducible refine Below.setCell ?_ ?_ _) | (with_reducible refine le_alloc ?_ _) | (with_reducible refine le_set ?_ _ _) | (with_reducible refine le_drew ?_) | (with_reducible refine le_drewN ?_ _) | omega | (dsimp only; omega)))
  replace hov := hov.alloc (.stringIter s 0)
  simp only [World.size_alloc] at hit0
  have hne : (Value.slice (some ⟨w.heap.size + 1, 0, none⟩) 0 0).ownBlock ≠ some (w.heap.size + 1 + 1) := by simp [Value.ownBlock]
  have hgb : w.heap.size ≤ w.heap.size + 1 + 1 := by omega
  clear hbx hb0
  obtain ⟨g, hg⟩ : ∃ g, w.heap.size + 1 + 1 = g := ⟨_, rfl⟩
  rw [hg] at hit0 hne hgb
  rw [hg]
  have Hg := Lib.hid hg; clear hg
  go_loopw [6] (fun v wr => ∃ k : Nat, k ≤ s.size ∧ wr.ownsRow w.heap.size 2 1 v (mT s k).length ((mT s k).flatMap intC) ∧ wr.heap[g]? = some (.stringIter s k) ∧ v.ownBlock ≠ some g ∧ Below w.heap.size w wr) (fun _ wr => s.size - wr.iterPos g)
  case atStart => exact ⟨0, Nat.zero_le _, hov, hit0, hne, hbw0⟩
  case round =>
    clear hov hit0 hne hbw0
    obtain ⟨k, hk, hov, hit, hne, hbw⟩ := hrel
    obtain ⟨A1, c1', rfl⟩ := own_slice hov
    by_cases hlt : k < s.size
    · have hbt := bt_eq s k hlt
      have hsi := hmb k hlt
      rw [hbt] at hsi
      have ha : (s[k]'hlt).toNat < 128 := by omega
      have hnx : ∀ ty, (Instr.next (.pointer (some ⟨g, 0, none⟩)) true ty).run Tryz.prog wr = _ := fun ty => Lib.run_next_ascii_at wr g s k ty hit hlt ha
      have hov1 := own_iterAt (s := s) (pos := k + 1) hov hne
      have hit1 := Lib.iterAt_heap wr g s k (k + 1) hit
      have hbw1 := Lib.below_iterAt hbw hgb s (k + 1)
      generalize wr.iterAt g s (k + 1) = wi at *
      have hml := mT_len s k
      have hnx2 := mT_next s k
      have e63 : (mT s k).length + 1 ≤ maxLen := by unfold maxLen; omega
      have e32 : ((mT s k).length + 1) * 8 ≤ 140737488355328 := by omega
      have e63b : (mT s k).length + 1 + 1 ≤ maxLen := by unfold maxLen; omega
      have e32b : ((mT s k).length + 1 + 1) * 8 ≤ 140737488355328 := by omega
      have hsg : signI s k = if (s[k]'hlt).toNat = 46 then 5 else 15 := by rw [signI, hbt]; split <;> split <;> first | rfl | omega
      have Hnx := Lib.hid hnx2; clear hnx2
      have E63 := Lib.hid e63; clear e63
      have E32 := Lib.hid e32; clear e32
      have E63b := Lib.hid e63b; clear e63b
      have E32b := Lib.hid e32b; clear e32b
      have Hbt := Lib.hid hbt; clear hbt
      have Hsg := Lib.hid hsg; clear hsg
      have Hsi := Lib.hid hsi; clear hsi
      cases hd : (((s[k]'hlt).toNat : Int) == 45)
      · have hs5 : signI s k = 5 := by
          have := Hsi.out
          rw [Hsg.out]
          simp at hd
          split <;> omega
        have Hs5 := Lib.hid hs5; clear hs5
        rcases Nat.eq_zero_or_pos k with h0 | h0
        · have hkn : ¬ (0 : Int) < (k : Int) := by omega
          have H0 := Lib.hid h0; clear h0
          go_wp2_with (at_builtin; refine wpl_append _ rfl (.tmp 46) (.tmp 48) _ rfl (w.heap.size) 2 p0 _ 1 8 Tryz.underlying30 hp hy0 hy1 hy2 rfl (by omega) _ (_) _ rfl ((hov1).alloc _) ((wi).heap.size + 1) (some ⟨(wi).heap.size, 0, none⟩) 1 1 (intC (5)) rfl (Sl.new (wi) 2 _ 1 1 rfl) (intC_one _) E63.out E32.out (le_alloc hbw1.size _) ?_; intro v2 w2 ho2 hg2 hat2)
          go_roundw
          case rel =>
            refine ⟨k + 1, by omega, ?_, iter_kept hit1 hg2 hne, other_next hat2 hne (Nat.lt_of_lt_of_le (Array.getElem?_eq_some_iff.1 hit1).1 (le_alloc (Nat.le_refl _) _)), (hbw1.alloc hbw1.size _).grown hg2 (le_alloc hbw1.size _) fun g' hg' => (hov1.lt g' hg').1⟩
            rw [Hnx.out, Hs5.out, if_neg (by rw [H0.out]; omega)]
            simpa [List.flatMap_append] using ho2
          case measure =>
            simp only [World.iterPos, iter_kept hit1 hg2 hne, hit]
            omega
        · have hk1 : (0 : Int) < (k : Int) := by omega
          go_wp2_with (first | ((at_builtin; refine wpl_append _ rfl (.tmp 35) (.tmp 37) _ rfl (w.heap.size) 2 p0 _ 1 8 Tryz.underlying30 hp hy0 hy1 hy2 rfl (by omega) _ (_) _ rfl ((hov1).alloc _) ((wi).heap.size + 1) (some ⟨(wi).heap.size, 0, none⟩) 1 1 (intC (5)) rfl (Sl.new (wi) 2 _ 1 1 rfl) (intC_one _) E63.out E32.out (le_alloc hbw1.size _) ?_; intro v2 w2 ho2 hg2 hat2); have hz2 : w.heap.size ≤ w2.heap.size := Nat.le_trans hbw1.size (Nat.le_trans (le_alloc (Nat.le_refl _) _) hg2.size); have hit2 := iter_kept hit1 hg2 hne; have hne2 := other_next hat2 hne (Nat.lt_of_lt_of_le (Array.getElem?_eq_some_iff.1 hit1).1 (le_alloc (Nat.le_refl _) _))) | (at_builtin; refine wpl_append _ rfl (.tmp 46) (.tmp 48) _ rfl (w.heap.size) 2 p0 _ 1 8 Tryz.underlying30 hp hy0 hy1 hy2 rfl (by omega) _ (_) _ rfl ((ho2).alloc _) ((w2).heap.size + 1) (some ⟨(w2).heap.size, 0, none⟩) 1 1 (intC (5)) rfl (Sl.new (w2) 2 _ 1 1 rfl) (intC_one _) E63b.out E32b.out (le_alloc hz2 _) ?_; intro v3 w3 ho3 hg3 hat3))
          go_roundw
          case rel =>
            have hb2 : Below w.heap.size w w2 := (hbw1.alloc hbw1.size _).grown hg2 (le_alloc hbw1.size _) fun g' hg' => (hov1.lt g' hg').1
            refine ⟨k + 1, by omega, ?_, iter_kept hit2 hg3 hne2, other_next hat3 hne2 (Nat.lt_of_lt_of_le (Array.getElem?_eq_some_iff.1 hit2).1 (le_alloc (Nat.le_refl _) _)), (hb2.alloc hb2.size _).grown hg3 (le_alloc hb2.size _) fun g' hg' => (ho2.lt g' hg').1⟩
            rw [Hnx.out, if_pos h0, Hs5.out]
            simpa [List.flatMap_append, Nat.add_assoc] using ho3
          case measure =>
            simp only [World.iterPos, iter_kept hit2 hg3 hne2, hit]
            omega
      · have hs5 : signI s k = 15 := by
          have := Hsi.out
          rw [Hsg.out]
          simp at hd
          split <;> omega
        have Hs5 := Lib.hid hs5; clear hs5
        rcases Nat.eq_zero_or_pos k with h0 | h0
        · have hkn : ¬ (0 : Int) < (k : Int) := by omega
          have H0 := Lib.hid h0; clear h0
          go_wp2_with (at_builtin; refine wpl_append _ rfl (.tmp 41) (.tmp 44) _ rfl (w.heap.size) 2 p0 _ 1 8 Tryz.underlying30 hp hy0 hy1 hy2 rfl (by omega) _ (_) _ rfl ((hov1).alloc _) ((wi).heap.size + 1) (some ⟨(wi).heap.size, 0, none⟩) 1 1 (intC (15)) rfl (Sl.new (wi) 2 _ 1 1 rfl) (intC_one _) E63.out E32.out (le_alloc hbw1.size _) ?_; intro v2 w2 ho2 hg2 hat2)
          go_roundw
          case rel =>
            refine ⟨k + 1, by omega, ?_, iter_kept hit1 hg2 hne, other_next hat2 hne (Nat.lt_of_lt_of_le (Array.getElem?_eq_some_iff.1 hit1).1 (le_alloc (Nat.le_refl _) _)), (hbw1.alloc hbw1.size _).grown hg2 (le_alloc hbw1.size _) fun g' hg' => (hov1.lt g' hg').1⟩
            rw [Hnx.out, Hs5.out, if_neg (by rw [H0.out]; omega)]
            simpa [List.flatMap_append] using ho2
          case measure =>
            simp only [World.iterPos, iter_kept hit1 hg2 hne, hit]
            omega
        · have hk1 : (0 : Int) < (k : Int) := by omega
          go_wp2_with (first | ((at_builtin; refine wpl_append _ rfl (.tmp 35) (.tmp 37) _ rfl (w.heap.size) 2 p0 _ 1 8 Tryz.underlying30 hp hy0 hy1 hy2 rfl (by omega) _ (_) _ rfl ((hov1).alloc _) ((wi).heap.size + 1) (some ⟨(wi).heap.size, 0, none⟩) 1 1 (intC (5)) rfl (Sl.new (wi) 2 _ 1 1 rfl) (intC_one _) E63.out E32.out (le_alloc hbw1.size _) ?_; intro v2 w2 ho2 hg2 hat2); have hz2 : w.heap.size ≤ w2.heap.size := Nat.le_trans hbw1.size (Nat.le_trans (le_alloc (Nat.le_refl _) _) hg2.size); have hit2 := iter_kept hit1 hg2 hne; have hne2 := other_next hat2 hne (Nat.lt_of_lt_of_le (Array.getElem?_eq_some_iff.1 hit1).1 (le_alloc (Nat.le_refl _) _))) | (at_builtin; refine wpl_append _ rfl (.tmp 41) (.tmp 44) _ rfl (w.heap.size) 2 p0 _ 1 8 Tryz.underlying30 hp hy0 hy1 hy2 rfl (by omega) _ (_) _ rfl ((ho2).alloc _) ((w2).heap.size + 1) (some ⟨(w2).heap.size, 0, none⟩) 1 1 (intC (15)) rfl (Sl.new (w2) 2 _ 1 1 rfl) (intC_one _) E63b.out E32b.out (le_alloc hz2 _) ?_; intro v3 w3 ho3 hg3 hat3))
          go_roundw
          case rel =>
            have hb2 : Below w.heap.size w w2 := (hbw1.alloc hbw1.size _).grown hg2 (le_alloc hbw1.size _) fun g' hg' => (hov1.lt g' hg').1
            refine ⟨k + 1, by omega, ?_, iter_kept hit2 hg3 hne2, other_next hat3 hne2 (Nat.lt_of_lt_of_le (Array.getElem?_eq_some_iff.1 hit2).1 (le_alloc (Nat.le_refl _) _)), (hb2.alloc hb2.size _).grown hg3 (le_alloc hb2.size _) fun g' hg' => (ho2.lt g' hg').1⟩
            rw [Hnx.out, if_pos h0, Hs5.out]
            simpa [List.flatMap_append, Nat.add_assoc] using ho3
          case measure =>
            simp only [World.iterPos, iter_kept hit2 hg3 hne2, hit]
            omega
    · have hnx : ∀ ty, (Instr.next (.pointer (some ⟨g, 0, none⟩)) true ty).run Tryz.prog wr = _ := fun ty => Lib.run_next_end_at wr g s k ty hit hlt
      go_wp2
      go_ret
      obtain rfl : k = s.size := by omega
      exact ⟨_, rfl, hov, hbw⟩
end Go.Proofs.YtpfnnjcochhklaaGreatDoor

/- Characters: the program's times of groups. -/
namespace Go.Proofs.YtpfnnjcochhklaaGreatDoor
open Go.RowKit
def GK (k : Int) : Prop := k = 2 ∨ k = 4 ∨ k = 5 ∨ k = 6 ∨ k = 7
theorem rhythmG_c (k : Int) (hk : GK k) (w : World) : Calls Tryz.prog 162 #[.int .i64 k] w fun e w' => e = .returned (.tuple #[.int .i64 (flashI k), .int .i64 (gapI k), .int .i64 (restR k)]) ∧ w = w' := by
  have h1 : flashR k = flashI k := by unfold GK at hk; rcases hk with rfl | rfl | rfl | rfl | rfl <;> rfl
  have h2 : gapR k = gapI k := by unfold GK at hk; rcases hk with rfl | rfl | rfl | rfl | rfl <;> rfl
  rw [← h1, ← h2]
  exact rhythm_c k w
set_option maxRecDepth 100000 in
set_option maxHeartbeats 2000000 in
theorem timesG_c (A : Option Addr) (n c : Nat) (x : Ch) (w : World) (sl : Sl w w.heap.size 1 A n (x.gs.flatMap intC)) (hn : n ≤ 1048576) (hlz : x.l.size ≤ 1048576) (hs : x.cs.size ≤ 1048576) (hk : GK x.k) (ht : TOk x) :
    Calls Tryz.prog 164 #[chV x.k A n c x.l x.cs x.p] w fun e w' => ∃ v, e = .returned v ∧ w'.ownsRow w.heap.size 2 1 v (timesL x).length ((timesL x).flatMap intC) ∧ Below w.heap.size w w' := by
  obtain ⟨p0, hp, hy0, hy1, hy2⟩ := info_parts intInfo
  have hk8 : x.k ≠ 8 := by unfold GK at hk; omega
  have htl : timesL x = outerT x.k (grp x) (grp x).length ++ (if isL x.l = true then [gapI x.k, 20] else []) := by rw [timesL, if_neg hk8]
  obtain ⟨hG1, hG4, hG9⟩ := grp_ok hk8 ht
  have hLE : isL x.l = true ∨ isE x.l = true := (ht.gr hk8).2.2
  have hlen := sl.len intC 1 intC_len (by omega)
  have hke : (x.k == 8) = false := by simpa using hk8
  have hgap := gapI_bd x.k
  have hp0 := chp_box (c := c) 53 sl hn hlz hs
  have hb00 : Below w.heap.size w (w.alloc (.cells #[.int .i64 x.k, .slice A n c, .string x.l, .string x.cs, .int .i64 x.p] 53)) := by (repeat (first | (with_reducible assumption) | (with_reducible exact Below.refl _ _) | exact Nat.le_refl _ | exact Below.size (by with_reducible assumption) | (with_reducible refine Below.drew ?_) | (with_reducible refine below_drewN ?_ _) | (with_reducible refine Below.alloc ?_ ?_ _) | (with_reducible refine Below.setCell ?_ ?_ _) | (with_reducible refine le_alloc ?_ _) | (with_reducible refine le_set ?_ _ _) | (with_reducible refine le_drew ?_) | (with_reducible refine le_drewN ?_ _) | omega | (dsimp only; omega)))
  obtain ⟨k, gs, l, cs, p⟩ := x
  obtain ⟨c0, c1, c2, c3, c4, hbs, sl0, _, _, _⟩ := hp0
  simp only [Nat.zero_add] at c0 c1 c2 c3 c4 sl sl0 hlz hs hke hgap hk hlen hLE hb00 hbs
  obtain ⟨G, hGe⟩ : ∃ G, grp ⟨k, gs, l, cs, p⟩ = G := ⟨_, rfl⟩
  rw [hGe] at hG1 hG4 hG9 htl
  have Htl := Lib.hid htl; clear htl
  have HLE := Lib.hid hLE; clear hLE
  clear ht hk8
  obtain ⟨u1, u2⟩ := hgap
  go_enter Tryz.func164, Tryz.ntmps164
  go_wp2_with fail
  refine (rhythmG_c k hk _).mono ?_
  rintro e w1 ⟨rfl, rfl⟩
  have hle0 : w.heap.size ≤ (w.alloc (.cells #[.int .i64 k, .slice A n c, .string l, .string cs, .int .i64 p] 53)).heap.size := by simp
  generalize w.alloc (.cells #[.int .i64 k, .slice A n c, .string l, .string cs, .int .i64 p] 53) = w0 at *
  rcases Nat.eq_zero_or_pos n with h0 | h0
  · subst h0
    have hgs : gs = [] := List.eq_nil_of_length_eq_zero hlen
    have hGg : G = [1] := by rw [← hGe, grp, if_pos hgs]
    have hGl : G.length = 1 := by rw [hGg]; rfl
    have hbw : Below w0.heap.size w0 ((w0.alloc (.cells #[.int .i64 1] 2)).alloc (.cells #[] 2)) := by (repeat (first | (with_reducible assumption) | (with_reducible exact Below.refl _ _) | exact Nat.le_refl _ | exact Below.size (by with_reducible assumption) | (with_reducible refine Below.drew ?_) | (with_reducible refine below_drewN ?_ _) | (with_reducible refine Below.alloc ?_ ?_ _) | (with_reducible refine Below.setCell ?_ ?_ _) | (with_reducible refine le_alloc ?_ _) | (with_reducible refine le_set ?_ _ _) | (with_reducible refine le_drew ?_) | (with_reducible refine le_drewN ?_ _) | omega | (dsimp only; omega)))
    have hov : ((w0.alloc (.cells #[.int .i64 1] 2)).alloc (.cells #[] 2)).ownsRow w0.heap.size 2 1 (.slice (some ⟨w0.heap.size + 1, 0, none⟩) 0 0) 0 (([] : List Int).flatMap intC) := by
      have := World.ownsRow_made (base := w0.heap.size) (e := 2) (size := 1) (w0.alloc (.cells #[.int .i64 1] 2)) #[] 0 (by simp) (by simp [maxLen]) rfl
      simpa using this
    have hsG : Sl ((w0.alloc (.cells #[.int .i64 1] 2)).alloc (.cells #[] 2)) ((w0.alloc (.cells #[.int .i64 1] 2)).alloc (.cells #[] 2)).heap.size 1 (some ⟨w0.heap.size, 0, none⟩) 1 (G.flatMap intC) := by
      rw [hGg]
      have h1 := Sl.new w0 2 [.int .i64 1] 1 1 rfl
      have h2 : Sl (w0.alloc (.cells #[.int .i64 1] 2)) (w0.alloc (.cells #[.int .i64 1] 2)).heap.size 1 (some ⟨w0.heap.size, 0, none⟩) 1 [.int .i64 1] := by simpa using h1
      exact h2.next (by (repeat (first | (with_reducible assumption) | (with_reducible exact Below.refl _ _) | exact Nat.le_refl _ | exact Below.size (by with_reducible assumption) | (with_reducible refine Below.drew ?_) | (with_reducible refine below_drewN ?_ _) | (with_reducible refine Below.alloc ?_ ?_ _) | (with_reducible refine Below.setCell ?_ ?_ _) | (with_reducible refine le_alloc ?_ _) | (with_reducible refine le_set ?_ _ _) | (with_reducible refine le_drew ?_) | (with_reducible refine le_drewN ?_ _) | omega | (dsimp only; omega))))
    have hneG : ∀ b off, (some ⟨w0.heap.size, 0, none⟩ : Option Addr) = some ⟨b, off, none⟩ → (Value.slice (some ⟨w0.heap.size + 1, 0, none⟩) 0 0).ownBlock ≠ some b := by
      intro b1 off1 e
      injection e with e; injection e with e3 _ _
      subst e3
      simp [Value.ownBlock]
    have hnz : (((0 : Nat) : Int) == 0) = true := by simp
    clear hGe hgs hlen
    have HGg := Lib.hid hGg; clear hGg
    go_wp2
    generalize hV : Value.slice (some ⟨w0.heap.size, 0, none⟩) 1 1 = V
    obtain ⟨AG, N1, hV', hAG, hN1⟩ : ∃ AG N1, V = .slice AG N1 N1 ∧ AG = some ⟨w0.heap.size, 0, none⟩ ∧ N1 = 1 := ⟨_, 1, hV.symm, rfl, rfl⟩
    clear hV
    subst hV'
    rw [← hAG] at hsG
    rw [← hAG] at hneG
    replace hGl : G.length = N1 := by rw [hN1]; exact hGl
    replace hsG : Sl ((w0.alloc (.cells #[.int .i64 1] 2)).alloc (.cells #[] 2)) ((w0.alloc (.cells #[.int .i64 1] 2)).alloc (.cells #[] 2)).heap.size 1 AG N1 (G.flatMap intC) := by rw [hN1]; exact hsG
    have hlit : Value.int .i64 1 = Value.int .i64 (N1 : Int) := by rw [hN1]; rfl
    conv =>
      arg 4
      simp only [hlit]
    clear hAG hN1 hlit
    have HGl := Lib.hid hGl; clear hGl
    generalize (w0.alloc (.cells #[.int .i64 1] 2)).alloc (.cells #[] 2) = wz at *
    go_loopw [10, 60] (fun v i wr => ∃ (r : Nat) (L0 : List Int), r ≤ N1 ∧ i = .int .i64 r ∧ L0 = outerT k G r ∧ wr.ownsRow w0.heap.size 2 1 v L0.length (L0.flatMap intC) ∧ Sl wr wr.heap.size 1 AG N1 (G.flatMap intC) ∧ (∀ b off, AG = some ⟨b, off, none⟩ → v.ownBlock ≠ some b) ∧ Below w0.heap.size w0 wr) (fun _ i _ => N1 - (intOf i).toNat)
    case atStart => exact ⟨0, [], Nat.zero_le _, rfl, rfl, hov, hsG, hneG, hbw⟩
    case round =>
      clear hov hsG hneG hbw
      obtain ⟨r, L0, hr, rfl, hL0, hov, hsG, hneG, hbw⟩ := hrel
      have HL0 := Lib.hid hL0; clear hL0
      obtain ⟨A1, c1', rfl⟩ := own_slice hov
      by_cases hlt : r < N1
      · obtain ⟨bg, offg, xg, rfl, hbg, hxg, cx⟩ := hsG.int r hlt
        have hx9 := hG9 xg (List.mem_of_getElem? hxg)
        obtain ⟨M, rfl⟩ : ∃ M : Nat, xg = M := ⟨xg.toNat, by omega⟩
        have hon := outerT_next k hxg
        have hol := outerT_len k hG9 r (by rw [HGl.out]; omega)
        have hn4 : N1 ≤ 4 := by rw [← HGl.out]; exact hG4
        have hr4 : r ≤ 4 := by omega
        have Hxg := Lib.hid hxg; clear hxg
        have Hon := Lib.hid hon; clear hon
        go_wp2
        obtain ⟨wo, rfl⟩ : ∃ wo : World, wo = wr := ⟨_, rfl⟩
        go_loopw [10, 66] (fun v i wr => ∃ (m : Nat) (L : List Int), m ≤ M ∧ i = .int .i64 m ∧ L = outerT k G r ++ innerT k r m ∧ wr.ownsRow w0.heap.size 2 1 v L.length (L.flatMap intC) ∧ Sl wr wr.heap.size 1 (some ⟨bg, offg, none⟩) N1 (G.flatMap intC) ∧ (∀ b off, some (⟨bg, offg, none⟩ : Addr) = some ⟨b, off, none⟩ → v.ownBlock ≠ some b) ∧ Below w0.heap.size w0 wr) (fun _ i _ => M - (intOf i).toNat)
        case atStart => exact ⟨0, L0, Nat.zero_le _, rfl, by rw [HL0.out]; simp [innerT], hov, hsG, hneG, hbw⟩
        case round =>
          clear hov hsG hneG hbw
          obtain ⟨m, L, hm, rfl, hL, hov, hsG, hneG, hbw⟩ := hrel
          obtain ⟨A2, c2', rfl⟩ := own_slice hov
          by_cases hlt2 : m < M
          · have hin := innerT_next k r m
            have hil := innerT_len k r m
            have hlen : L.length ≤ 1000 := by rw [hL, List.length_append]; omega
            have hnp : 0 < N1 := by omega
            replace hL := hL.symm
            have e63 : L.length + 1 ≤ maxLen := by unfold maxLen; omega
            have e32 : (L.length + 1) * 8 ≤ 140737488355328 := by omega
            have e63b : L.length + 1 + 1 ≤ maxLen := by unfold maxLen; omega
            have e32b : (L.length + 1 + 1) * 8 ≤ 140737488355328 := by omega
            have HL := Lib.hid hL; clear hL
            have Hin := Lib.hid hin; clear hin
            have E63 := Lib.hid e63; clear e63
            have E32 := Lib.hid e32; clear e32
            have E63b := Lib.hid e63b; clear e63b
            have E32b := Lib.hid e32b; clear e32b
            rcases Nat.eq_zero_or_pos m with hm0 | hm0
            · have hmn : ¬ (0 : Int) < (m : Int) := by omega
              have Hm0 := Lib.hid hm0; clear hm0
              rcases Nat.eq_zero_or_pos r with hr0 | hr0
              · have hrn : ¬ (0 : Int) < (r : Int) := by omega
                have Hr0 := Lib.hid hr0; clear hr0
                go_wp2_with (at_builtin; refine wpl_append _ rfl (.tmp 84) (.tmp 86) _ rfl (w0.heap.size) 2 p0 _ 1 8 Tryz.underlying30 hp hy0 hy1 hy2 rfl (by omega) _ (_) _ rfl ((hov).alloc _) ((wr).heap.size + 1) (some ⟨(wr).heap.size, 0, none⟩) 1 1 (intC (flashI k)) rfl (Sl.new (wr) 2 _ 1 1 rfl) (intC_one _) E63.out E32.out (le_alloc hbw.size _) ?_; intro v2 w2 ho2 hg2 hat2)
                go_roundw
                case rel =>
                  obtain ⟨hsG2, hneG2⟩ := hsG.beside hg2 hat2 hneG hnp
                  have e0 : outerT k G r ++ innerT k r (m + 1) = L ++ [flashI k] := by
                    rw [Hin.out, ← List.append_assoc, HL.out]; simp [stepT, Hm0.out, Hr0.out]
                  refine ⟨m + 1, L ++ [flashI k], by omega, by go_num, ?_, ?_, hsG2, hneG2, (hbw.alloc hbw.size _).grown hg2 (le_alloc hbw.size _) fun g hg => (hov.lt g hg).1⟩
                  · exact e0.symm
                  · simpa [List.flatMap_append] using ho2
                case measure => simp [intOf]; omega
              · have hr1 : (0 : Int) < (r : Int) := by omega
                go_wp2_with (first | ((at_builtin; refine wpl_append _ rfl (.tmp 79) (.tmp 82) _ rfl (w0.heap.size) 2 p0 _ 1 8 Tryz.underlying30 hp hy0 hy1 hy2 rfl (by omega) _ (_) _ rfl ((hov).alloc _) ((wr).heap.size + 1) (some ⟨(wr).heap.size, 0, none⟩) 1 1 (intC (gapI k + 20)) rfl (Sl.new (wr) 2 _ 1 1 rfl) (intC_one _) E63.out E32.out (le_alloc hbw.size _) ?_; intro v2 w2 ho2 hg2 hat2); have hb2 : Below w0.heap.size w0 w2 := (hbw.alloc hbw.size _).grown hg2 (le_alloc hbw.size _) fun g hg => (hov.lt g hg).1; have hz2 := hb2.size; obtain ⟨hsG2, hneG2⟩ := hsG.beside hg2 hat2 hneG hnp) | (at_builtin; refine wpl_append _ rfl (.tmp 84) (.tmp 86) _ rfl (w0.heap.size) 2 p0 _ 1 8 Tryz.underlying30 hp hy0 hy1 hy2 rfl (by omega) _ (_) _ rfl ((ho2).alloc _) ((w2).heap.size + 1) (some ⟨(w2).heap.size, 0, none⟩) 1 1 (intC (flashI k)) rfl (Sl.new (w2) 2 _ 1 1 rfl) (intC_one _) E63b.out E32b.out (le_alloc hz2 _) ?_; intro v3 w3 ho3 hg3 hat3))
                go_roundw
                case rel =>
                  obtain ⟨hsG3, hneG3⟩ := hsG2.beside hg3 hat3 hneG2 hnp
                  have e0 : outerT k G r ++ innerT k r (m + 1) = L ++ [gapI k + 20] ++ [flashI k] := by
                    rw [Hin.out, ← List.append_assoc, HL.out]; simp [stepT, Hm0.out, hr0]
                  refine ⟨m + 1, L ++ [gapI k + 20] ++ [flashI k], by omega, by go_num, e0.symm, ?_, hsG3, hneG3, (hb2.alloc hb2.size _).grown hg3 (le_alloc hb2.size _) fun g hg => (ho2.lt g hg).1⟩
                  simpa [List.flatMap_append, Nat.add_assoc] using ho3
                case measure => simp [intOf]; omega
            · have hm1 : (0 : Int) < (m : Int) := by omega
              go_wp2_with (first | ((at_builtin; refine wpl_append _ rfl (.tmp 72) (.tmp 74) _ rfl (w0.heap.size) 2 p0 _ 1 8 Tryz.underlying30 hp hy0 hy1 hy2 rfl (by omega) _ (_) _ rfl ((hov).alloc _) ((wr).heap.size + 1) (some ⟨(wr).heap.size, 0, none⟩) 1 1 (intC (gapI k)) rfl (Sl.new (wr) 2 _ 1 1 rfl) (intC_one _) E63.out E32.out (le_alloc hbw.size _) ?_; intro v2 w2 ho2 hg2 hat2); have hb2 : Below w0.heap.size w0 w2 := (hbw.alloc hbw.size _).grown hg2 (le_alloc hbw.size _) fun g hg => (hov.lt g hg).1; have hz2 := hb2.size; obtain ⟨hsG2, hneG2⟩ := hsG.beside hg2 hat2 hneG hnp) | (at_builtin; refine wpl_append _ rfl (.tmp 84) (.tmp 86) _ rfl (w0.heap.size) 2 p0 _ 1 8 Tryz.underlying30 hp hy0 hy1 hy2 rfl (by omega) _ (_) _ rfl ((ho2).alloc _) ((w2).heap.size + 1) (some ⟨(w2).heap.size, 0, none⟩) 1 1 (intC (flashI k)) rfl (Sl.new (w2) 2 _ 1 1 rfl) (intC_one _) E63b.out E32b.out (le_alloc hz2 _) ?_; intro v3 w3 ho3 hg3 hat3))
              go_roundw
              case rel =>
                obtain ⟨hsG3, hneG3⟩ := hsG2.beside hg3 hat3 hneG2 hnp
                have e0 : outerT k G r ++ innerT k r (m + 1) = L ++ [gapI k] ++ [flashI k] := by
                  rw [Hin.out, ← List.append_assoc, HL.out]; simp [stepT, hm0]
                refine ⟨m + 1, L ++ [gapI k] ++ [flashI k], by omega, by go_num, e0.symm, ?_, hsG3, hneG3, (hb2.alloc hb2.size _).grown hg3 (le_alloc hb2.size _) fun g hg => (ho2.lt g hg).1⟩
                simpa [List.flatMap_append, Nat.add_assoc] using ho3
              case measure => simp [intOf]; omega
          · obtain rfl : m = M := by omega
            have HL := Lib.hid hL; clear hL
            go_wp2
            go_roundw
            case rel =>
              refine ⟨r + 1, L, by omega, by go_num, ?_, hov, hsG, hneG, hbw⟩
              rw [Hon.out, Int.toNat_natCast]; exact HL.out
            case measure => simp [intOf]; omega
      · obtain rfl : r = N1 := by omega
        have q1 := keepC hbw w.heap.size hbs
        have hol := outerT_len k hG9 G.length (Nat.le_refl _)
        rw [HGl.out, ← HL0.out] at hol
        cases hLE : l.toList.isEmpty
        · have hLL : isL l = true := by rcases HLE.out with h | h; exact h; rw [isE, hLE] at h; exact absurd h (by simp)
          have hn4 : r ≤ 4 := by rw [← HGl.out]; exact hG4
          have e63 : L0.length + 2 ≤ maxLen := by unfold maxLen; omega
          have e32 : (L0.length + 2) * 8 ≤ 140737488355328 := by omega
          have E63 := Lib.hid e63; clear e63
          have E32 := Lib.hid e32; clear e32
          have HLL := Lib.hid hLL; clear hLL
          go_wp2_with (at_builtin; refine wpl_append _ rfl (.tmp 93) (.tmp 95) _ rfl w0.heap.size 2 p0 _ 1 8 Tryz.underlying30 hp hy0 hy1 hy2 rfl (by omega) _ _ _ rfl (hov.alloc _) (wr.heap.size + 1) (some ⟨wr.heap.size, 0, none⟩) 2 2 [.int .i64 (gapI k), .int .i64 20] rfl (Sl.new wr 2 _ 2 1 rfl) (by simp [Value.oneCell']) E63.out E32.out (le_alloc hbw.size _) ?_; intro v2 w2 ho2 hg2 hat2)
          go_ret
          refine ⟨_, rfl, own_base (base := w0.heap.size) ?_ (by omega), hb00.trans (((hbw.alloc hbw.size _).grown hg2 (le_alloc hbw.size _) fun g hg => (hov.lt g hg).1).mono (by omega))⟩
          have hT : timesL ⟨k, gs, l, cs, p⟩ = L0 ++ [gapI k, 20] := by rw [Htl.out, HGl.out, ← HL0.out, HLL.out]; simp
          rw [hT]
          simpa [List.flatMap_append, intC] using ho2
        · have hLL : isL l = false := by
            have : l.toList = [] := by simpa using hLE
            rw [isL, this]; rfl
          have HLL := Lib.hid hLL; clear hLL
          go_wp2
          go_ret
          refine ⟨_, rfl, own_base (base := w0.heap.size) ?_ (by omega), hb00.trans (hbw.mono (by omega))⟩
          have hT : timesL ⟨k, gs, l, cs, p⟩ = L0 := by rw [Htl.out, HGl.out, ← HL0.out, HLL.out]; simp
          rw [hT]
          exact hov
  · have hGg : gs = G := by rw [← hGe, grp, if_neg]; simp only; intro e; rw [e] at hlen; simp at hlen; omega
    have hGg' := hGg.symm
    subst hGg'
    have hGl : G.length = n := hlen
    have hbw : Below w0.heap.size w0 (w0.alloc (.cells #[] 2)) := by (repeat (first | (with_reducible assumption) | (with_reducible exact Below.refl _ _) | exact Nat.le_refl _ | exact Below.size (by with_reducible assumption) | (with_reducible refine Below.drew ?_) | (with_reducible refine below_drewN ?_ _) | (with_reducible refine Below.alloc ?_ ?_ _) | (with_reducible refine Below.setCell ?_ ?_ _) | (with_reducible refine le_alloc ?_ _) | (with_reducible refine le_set ?_ _ _) | (with_reducible refine le_drew ?_) | (with_reducible refine le_drewN ?_ _) | omega | (dsimp only; omega)))
    have hov : (w0.alloc (.cells #[] 2)).ownsRow w0.heap.size 2 1 (.slice (some ⟨w0.heap.size, 0, none⟩) 0 0) 0 (([] : List Int).flatMap intC) := World.ownsRow_made w0 #[] 0 (Nat.le_refl _) (by simp [maxLen]) rfl
    have hsG := sl0.next hbw
    have hneG : ∀ b off, A = some ⟨b, off, none⟩ → (Value.slice (some ⟨w0.heap.size, 0, none⟩) 0 0).ownBlock ≠ some b := by
      intro b1 off1 e
      obtain ⟨b2, off2, e2, hb2, _⟩ := sl0.2 h0
      rw [e] at e2; injection e2 with e2; injection e2 with e3 _ _
      subst e3
      simp [Value.ownBlock]; omega
    have hnz : ((n : Int) == 0) = false := by simp; omega
    clear hlen
    have HGe := Lib.hid hGe; clear hGe
    have HGl := Lib.hid hGl; clear hGl
    go_wp2
    go_loopw [10, 60] (fun v i wr => ∃ (r : Nat) (L0 : List Int), r ≤ n ∧ i = .int .i64 r ∧ L0 = outerT k G r ∧ wr.ownsRow w0.heap.size 2 1 v L0.length (L0.flatMap intC) ∧ Sl wr wr.heap.size 1 A n (G.flatMap intC) ∧ (∀ b off, A = some ⟨b, off, none⟩ → v.ownBlock ≠ some b) ∧ Below w0.heap.size w0 wr) (fun _ i _ => n - (intOf i).toNat)
    case atStart => exact ⟨0, [], Nat.zero_le _, rfl, rfl, hov, hsG, hneG, hbw⟩
    case round =>
      clear hov hsG hneG hbw
      obtain ⟨r, L0, hr, rfl, hL0, hov, hsG, hneG, hbw⟩ := hrel
      have HL0 := Lib.hid hL0; clear hL0
      obtain ⟨A1, c1', rfl⟩ := own_slice hov
      by_cases hlt : r < n
      · obtain ⟨bg, offg, xg, rfl, hbg, hxg, cx⟩ := hsG.int r hlt
        have hx9 := hG9 xg (List.mem_of_getElem? hxg)
        obtain ⟨M, rfl⟩ : ∃ M : Nat, xg = M := ⟨xg.toNat, by omega⟩
        have hon := outerT_next k hxg
        have hol := outerT_len k hG9 r (by rw [HGl.out]; omega)
        have hn4 : n ≤ 4 := by rw [← HGl.out]; exact hG4
        have hr4 : r ≤ 4 := by omega
        have Hxg := Lib.hid hxg; clear hxg
        have Hon := Lib.hid hon; clear hon
        go_wp2
        obtain ⟨wo, rfl⟩ : ∃ wo : World, wo = wr := ⟨_, rfl⟩
        go_loopw [10, 66] (fun v i wr => ∃ (m : Nat) (L : List Int), m ≤ M ∧ i = .int .i64 m ∧ L = outerT k G r ++ innerT k r m ∧ wr.ownsRow w0.heap.size 2 1 v L.length (L.flatMap intC) ∧ Sl wr wr.heap.size 1 (some ⟨bg, offg, none⟩) n (G.flatMap intC) ∧ (∀ b off, some (⟨bg, offg, none⟩ : Addr) = some ⟨b, off, none⟩ → v.ownBlock ≠ some b) ∧ Below w0.heap.size w0 wr) (fun _ i _ => M - (intOf i).toNat)
        case atStart => exact ⟨0, L0, Nat.zero_le _, rfl, by rw [HL0.out]; simp [innerT], hov, hsG, hneG, hbw⟩
        case round =>
          clear hov hsG hneG hbw
          obtain ⟨m, L, hm, rfl, hL, hov, hsG, hneG, hbw⟩ := hrel
          obtain ⟨A2, c2', rfl⟩ := own_slice hov
          by_cases hlt2 : m < M
          · have hin := innerT_next k r m
            have hil := innerT_len k r m
            have hlen : L.length ≤ 1000 := by rw [hL, List.length_append]; omega
            have hnp : 0 < n := by omega
            replace hL := hL.symm
            have e63 : L.length + 1 ≤ maxLen := by unfold maxLen; omega
            have e32 : (L.length + 1) * 8 ≤ 140737488355328 := by omega
            have e63b : L.length + 1 + 1 ≤ maxLen := by unfold maxLen; omega
            have e32b : (L.length + 1 + 1) * 8 ≤ 140737488355328 := by omega
            have HL := Lib.hid hL; clear hL
            have Hin := Lib.hid hin; clear hin
            have E63 := Lib.hid e63; clear e63
            have E32 := Lib.hid e32; clear e32
            have E63b := Lib.hid e63b; clear e63b
            have E32b := Lib.hid e32b; clear e32b
            rcases Nat.eq_zero_or_pos m with hm0 | hm0
            · have hmn : ¬ (0 : Int) < (m : Int) := by omega
              have Hm0 := Lib.hid hm0; clear hm0
              rcases Nat.eq_zero_or_pos r with hr0 | hr0
              · have hrn : ¬ (0 : Int) < (r : Int) := by omega
                have Hr0 := Lib.hid hr0; clear hr0
                go_wp2_with (at_builtin; refine wpl_append _ rfl (.tmp 84) (.tmp 86) _ rfl (w0.heap.size) 2 p0 _ 1 8 Tryz.underlying30 hp hy0 hy1 hy2 rfl (by omega) _ (_) _ rfl ((hov).alloc _) ((wr).heap.size + 1) (some ⟨(wr).heap.size, 0, none⟩) 1 1 (intC (flashI k)) rfl (Sl.new (wr) 2 _ 1 1 rfl) (intC_one _) E63.out E32.out (le_alloc hbw.size _) ?_; intro v2 w2 ho2 hg2 hat2)
                go_roundw
                case rel =>
                  obtain ⟨hsG2, hneG2⟩ := hsG.beside hg2 hat2 hneG hnp
                  have e0 : outerT k G r ++ innerT k r (m + 1) = L ++ [flashI k] := by
                    rw [Hin.out, ← List.append_assoc, HL.out]; simp [stepT, Hm0.out, Hr0.out]
                  refine ⟨m + 1, L ++ [flashI k], by omega, by go_num, ?_, ?_, hsG2, hneG2, (hbw.alloc hbw.size _).grown hg2 (le_alloc hbw.size _) fun g hg => (hov.lt g hg).1⟩
                  · exact e0.symm
                  · simpa [List.flatMap_append] using ho2
                case measure => simp [intOf]; omega
              · have hr1 : (0 : Int) < (r : Int) := by omega
                go_wp2_with (first | ((at_builtin; refine wpl_append _ rfl (.tmp 79) (.tmp 82) _ rfl (w0.heap.size) 2 p0 _ 1 8 Tryz.underlying30 hp hy0 hy1 hy2 rfl (by omega) _ (_) _ rfl ((hov).alloc _) ((wr).heap.size + 1) (some ⟨(wr).heap.size, 0, none⟩) 1 1 (intC (gapI k + 20)) rfl (Sl.new (wr) 2 _ 1 1 rfl) (intC_one _) E63.out E32.out (le_alloc hbw.size _) ?_; intro v2 w2 ho2 hg2 hat2); have hb2 : Below w0.heap.size w0 w2 := (hbw.alloc hbw.size _).grown hg2 (le_alloc hbw.size _) fun g hg => (hov.lt g hg).1; have hz2 := hb2.size; obtain ⟨hsG2, hneG2⟩ := hsG.beside hg2 hat2 hneG hnp) | (at_builtin; refine wpl_append _ rfl (.tmp 84) (.tmp 86) _ rfl (w0.heap.size) 2 p0 _ 1 8 Tryz.underlying30 hp hy0 hy1 hy2 rfl (by omega) _ (_) _ rfl ((ho2).alloc _) ((w2).heap.size + 1) (some ⟨(w2).heap.size, 0, none⟩) 1 1 (intC (flashI k)) rfl (Sl.new (w2) 2 _ 1 1 rfl) (intC_one _) E63b.out E32b.out (le_alloc hz2 _) ?_; intro v3 w3 ho3 hg3 hat3))
                go_roundw
                case rel =>
                  obtain ⟨hsG3, hneG3⟩ := hsG2.beside hg3 hat3 hneG2 hnp
                  have e0 : outerT k G r ++ innerT k r (m + 1) = L ++ [gapI k + 20] ++ [flashI k] := by
                    rw [Hin.out, ← List.append_assoc, HL.out]; simp [stepT, Hm0.out, hr0]
                  refine ⟨m + 1, L ++ [gapI k + 20] ++ [flashI k], by omega, by go_num, e0.symm, ?_, hsG3, hneG3, (hb2.alloc hb2.size _).grown hg3 (le_alloc hb2.size _) fun g hg => (ho2.lt g hg).1⟩
                  simpa [List.flatMap_append, Nat.add_assoc] using ho3
                case measure => simp [intOf]; omega
            · have hm1 : (0 : Int) < (m : Int) := by omega
              go_wp2_with (first | ((at_builtin; refine wpl_append _ rfl (.tmp 72) (.tmp 74) _ rfl (w0.heap.size) 2 p0 _ 1 8 Tryz.underlying30 hp hy0 hy1 hy2 rfl (by omega) _ (_) _ rfl ((hov).alloc _) ((wr).heap.size + 1) (some ⟨(wr).heap.size, 0, none⟩) 1 1 (intC (gapI k)) rfl (Sl.new (wr) 2 _ 1 1 rfl) (intC_one _) E63.out E32.out (le_alloc hbw.size _) ?_; intro v2 w2 ho2 hg2 hat2); have hb2 : Below w0.heap.size w0 w2 := (hbw.alloc hbw.size _).grown hg2 (le_alloc hbw.size _) fun g hg => (hov.lt g hg).1; have hz2 := hb2.size; obtain ⟨hsG2, hneG2⟩ := hsG.beside hg2 hat2 hneG hnp) | (at_builtin; refine wpl_append _ rfl (.tmp 84) (.tmp 86) _ rfl (w0.heap.size) 2 p0 _ 1 8 Tryz.underlying30 hp hy0 hy1 hy2 rfl (by omega) _ (_) _ rfl ((ho2).alloc _) ((w2).heap.size + 1) (some ⟨(w2).heap.size, 0, none⟩) 1 1 (intC (flashI k)) rfl (Sl.new (w2) 2 _ 1 1 rfl) (intC_one _) E63b.out E32b.out (le_alloc hz2 _) ?_; intro v3 w3 ho3 hg3 hat3))
              go_roundw
              case rel =>
                obtain ⟨hsG3, hneG3⟩ := hsG2.beside hg3 hat3 hneG2 hnp
                have e0 : outerT k G r ++ innerT k r (m + 1) = L ++ [gapI k] ++ [flashI k] := by
                  rw [Hin.out, ← List.append_assoc, HL.out]; simp [stepT, hm0]
                refine ⟨m + 1, L ++ [gapI k] ++ [flashI k], by omega, by go_num, e0.symm, ?_, hsG3, hneG3, (hb2.alloc hb2.size _).grown hg3 (le_alloc hb2.size _) fun g hg => (ho2.lt g hg).1⟩
                simpa [List.flatMap_append, Nat.add_assoc] using ho3
              case measure => simp [intOf]; omega
          · obtain rfl : m = M := by omega
            have HL := Lib.hid hL; clear hL
            go_wp2
            go_roundw
            case rel =>
              refine ⟨r + 1, L, by omega, by go_num, ?_, hov, hsG, hneG, hbw⟩
              rw [Hon.out, Int.toNat_natCast]; exact HL.out
            case measure => simp [intOf]; omega
      · obtain rfl : r = n := by omega
        have q1 := keepC hbw w.heap.size hbs
        have hol := outerT_len k hG9 G.length (Nat.le_refl _)
        rw [HGl.out, ← HL0.out] at hol
        cases hLE : l.toList.isEmpty
        · have hLL : isL l = true := by rcases HLE.out with h | h; exact h; rw [isE, hLE] at h; exact absurd h (by simp)
          have hn4 : r ≤ 4 := by rw [← HGl.out]; exact hG4
          have e63 : L0.length + 2 ≤ maxLen := by unfold maxLen; omega
          have e32 : (L0.length + 2) * 8 ≤ 140737488355328 := by omega
          have E63 := Lib.hid e63; clear e63
          have E32 := Lib.hid e32; clear e32
          have HLL := Lib.hid hLL; clear hLL
          go_wp2_with (at_builtin; refine wpl_append _ rfl (.tmp 93) (.tmp 95) _ rfl w0.heap.size 2 p0 _ 1 8 Tryz.underlying30 hp hy0 hy1 hy2 rfl (by omega) _ _ _ rfl (hov.alloc _) (wr.heap.size + 1) (some ⟨wr.heap.size, 0, none⟩) 2 2 [.int .i64 (gapI k), .int .i64 20] rfl (Sl.new wr 2 _ 2 1 rfl) (by simp [Value.oneCell']) E63.out E32.out (le_alloc hbw.size _) ?_; intro v2 w2 ho2 hg2 hat2)
          go_ret
          refine ⟨_, rfl, own_base (base := w0.heap.size) ?_ (by omega), hb00.trans (((hbw.alloc hbw.size _).grown hg2 (le_alloc hbw.size _) fun g hg => (hov.lt g hg).1).mono (by omega))⟩
          have hT : timesL ⟨k, G, l, cs, p⟩ = L0 ++ [gapI k, 20] := by rw [Htl.out, HGl.out, ← HL0.out, HLL.out]; simp
          rw [hT]
          simpa [List.flatMap_append, intC] using ho2
        · have hLL : isL l = false := by
            have : l.toList = [] := by simpa using hLE
            rw [isL, this]; rfl
          have HLL := Lib.hid hLL; clear hLL
          go_wp2
          go_ret
          refine ⟨_, rfl, own_base (base := w0.heap.size) ?_ (by omega), hb00.trans (hbw.mono (by omega))⟩
          have hT : timesL ⟨k, G, l, cs, p⟩ = L0 := by rw [Htl.out, HGl.out, ← HL0.out, HLL.out]; simp
          rw [hT]
          exact hov
end Go.Proofs.YtpfnnjcochhklaaGreatDoor

/- Characters: the program's least period. -/
namespace Go.Proofs.YtpfnnjcochhklaaGreatDoor
open Go.RowKit
theorem shape_GK {x : Ch} (h : shapeB x = true) (h1 : steadyB x = false) (h3 : x.k ≠ 3) : x.k = 8 ∨ GK x.k := by
  have hf : fitsB x = true := by simp [shapeB] at h; exact h.2
  unfold GK
  by_cases k8 : x.k = 8
  · exact .inl k8
  · right
    have k1 : x.k ≠ 1 := fun e => by simp [steadyB, e] at h1
    unfold fitsB at hf
    by_cases a2 : x.k = 2 ∨ x.k = 4 ∨ x.k = 5
    · omega
    · by_cases a6 : x.k = 6 ∨ x.k = 7
      · omega
      · rw [if_neg (by omega), if_neg a2, if_neg a6, if_neg k8] at hf
        exact absurd hf (by simp)
theorem times_c (A : Option Addr) (n c : Nat) (x : Ch) (w : World) (sl : Sl w w.heap.size 1 A n (x.gs.flatMap intC)) (hn : n ≤ 1048576) (hlz : x.l.size ≤ 1048576) (hs : x.cs.size ≤ 1048576) (hk : x.k = 8 ∨ GK x.k) (ht : TOk x) :
    Calls Tryz.prog 164 #[chV x.k A n c x.l x.cs x.p] w fun e w' => ∃ v, e = .returned v ∧ w'.ownsRow w.heap.size 2 1 v (timesL x).length ((timesL x).flatMap intC) ∧ Below w.heap.size w w' := by
  rcases hk with h | h
  · exact timesM_c A n c x w sl hn hlz hs h ht
  · exact timesG_c A n c x w sl hn hlz hs h ht
theorem restR_eq {x : Ch} (h : shapeB x = true) (hk : x.k = 8 ∨ GK x.k) : (restR x.k + if 1 < x.gs.length then 20 else 0) = restI x := by
  have hf : fitsB x = true := by simp [shapeB] at h; exact h.2
  have hlen : x.k = 6 ∨ x.k = 7 ∨ x.k = 8 → ¬ 1 < x.gs.length := by
    intro hk6
    unfold fitsB at hf
    by_cases k8 : x.k = 8
    · rw [if_neg (by omega), if_neg (by omega), if_neg (by omega), if_pos k8] at hf
      simp at hf
      rw [hf.1]; simp
    · rw [if_neg (by omega), if_neg (by omega), if_pos (by omega)] at hf
      split at hf
      · simp at hf; rw [hf]; simp
      · simp at hf; omega
  unfold GK at hk
  unfold restI restR gapI
  rcases hk with e | e | e | e | e | e <;> simp only [e] at hlen ⊢ <;> simp at hlen ⊢ <;> (try split) <;> omega
theorem restR_bd (k : Int) : 0 ≤ restR k ∧ restR k ≤ 30 := by unfold restR; (repeat' split) <;> omega
set_option maxRecDepth 100000 in
set_option maxHeartbeats 1000000 in
theorem leastPeriod_c (A : Option Addr) (n c : Nat) (x : Ch) (w : World) (sl : Sl w w.heap.size 1 A n (x.gs.flatMap intC)) (hn : n ≤ 1048576) (hlz : x.l.size ≤ 1048576) (hs : x.cs.size ≤ 1048576) (hsh : shapeB x = true) :
    Calls Tryz.prog 148 #[chV x.k A n c x.l x.cs x.p] w fun e w' => e = .returned (.int .i64 (leastI x)) ∧ Below w.heap.size w w' := by
  have ht := shape_TOk hsh
  obtain ⟨b1, b2⟩ := times_bd ht
  have hsa := sum_abs (gs := timesL x) fun y hy => by have := b2 y hy; omega
  obtain ⟨r1, r2⟩ := restI_bd x
  have hl := sl.len intC 1 intC_len (by omega)
  have hb0 : Below w.heap.size w (w.alloc (.cells #[.int .i64 x.k, .slice A n c, .string x.l, .string x.cs, .int .i64 x.p] 53)) := by (repeat (first | (with_reducible assumption) | (with_reducible exact Below.refl _ _) | exact Nat.le_refl _ | exact Below.size (by with_reducible assumption) | (with_reducible refine Below.drew ?_) | (with_reducible refine below_drewN ?_ _) | (with_reducible refine Below.alloc ?_ ?_ _) | (with_reducible refine Below.setCell ?_ ?_ _) | (with_reducible refine le_alloc ?_ _) | (with_reducible refine le_set ?_ _ _) | (with_reducible refine le_drew ?_) | (with_reducible refine le_drewN ?_ _) | omega | (dsimp only; omega)))
  have sl0 := sl.next hb0
  cases hst : steadyB x
  · by_cases hk3 : x.k = 3
    · have hk3' : (x.k == 3) = true := by simpa using hk3
      have hfin : leastI x = 20 := by rw [leastI, if_neg (by rw [hst]; simp), if_pos hk3]
      have Hfin := Lib.hid hfin; clear hfin
      have Hl := Lib.hid hl; clear hl
      clear hk3
      go_enter Tryz.func148, Tryz.ntmps148
      go_wp2_with (go_at_call 147; refine (isSteady_c A n c x _ sl0 hn hlz hs).mono ?_; rintro e w1 ⟨rfl, hb1⟩; have q1 := keepC hb1 w.heap.size (by simp))
      go_ret
      exact ⟨ret_eq (int_eq Hfin.out.symm), hb0.trans (hb1.mono (by simp))⟩
    · have hk3' : (x.k == 3) = false := by simpa using hk3
      have hgk := shape_GK hsh hst hk3
      have hrr := restR_eq hsh hgk
      obtain ⟨r3, r4⟩ := restR_bd x.k
      obtain ⟨s1, s2⟩ := hsa
      have hfin : leastI x = (timesL x).sum + restI x := by rw [leastI, if_neg (by rw [hst]; simp), if_neg hk3]
      have Hfin := Lib.hid hfin; clear hfin
      clear hk3
      by_cases h1n : 1 < n
      · rw [if_pos (by rw [hl]; exact h1n)] at hrr
        have Hrr := Lib.hid hrr; clear hrr
        have Hl := Lib.hid hl; clear hl
        go_enter Tryz.func148, Tryz.ntmps148
        go_wp2_with (first | (go_at_call 147; refine (isSteady_c A n c x _ sl0 hn hlz hs).mono ?_; rintro e w1 ⟨rfl, hb1⟩; have q1 := keepC hb1 w.heap.size (by simp)) | (go_at_call 162; refine (rhythm_c _ _).mono ?_; rintro e w9 ⟨rfl, rfl⟩))
        have sl1 := sl0.next hb1
        have hbw1 := hb0.trans (hb1.mono (by simp))
        refine (times_c A n c x _ sl1 hn hlz hs hgk ht).mono ?_
        rintro e w2 ⟨v, rfl, ho, hb2⟩
        obtain ⟨A1, c1, rfl⟩ := own_slice ho
        go_wp2_with fail
        refine (sumOf_c A1 _ c1 (timesL x) _ (Sl.of_own ho) (by omega) (fun y hy => by have := b2 y hy; omega)).mono ?_
        rintro e w3 ⟨rfl, rfl⟩
        go_wp2_with fail
        go_ret
        exact ⟨ret_eq (int_eq (by rw [Hfin.out, ← Hrr.out])), hbw1.trans (hb2.mono hbw1.size)⟩
      · rw [if_neg (by rw [hl]; exact h1n), Int.add_zero] at hrr
        have Hrr := Lib.hid hrr; clear hrr
        have Hl := Lib.hid hl; clear hl
        go_enter Tryz.func148, Tryz.ntmps148
        go_wp2_with (first | (go_at_call 147; refine (isSteady_c A n c x _ sl0 hn hlz hs).mono ?_; rintro e w1 ⟨rfl, hb1⟩; have q1 := keepC hb1 w.heap.size (by simp)) | (go_at_call 162; refine (rhythm_c _ _).mono ?_; rintro e w9 ⟨rfl, rfl⟩))
        have sl1 := sl0.next hb1
        have hbw1 := hb0.trans (hb1.mono (by simp))
        refine (times_c A n c x _ sl1 hn hlz hs hgk ht).mono ?_
        rintro e w2 ⟨v, rfl, ho, hb2⟩
        obtain ⟨A1, c1, rfl⟩ := own_slice ho
        go_wp2_with fail
        refine (sumOf_c A1 _ c1 (timesL x) _ (Sl.of_own ho) (by omega) (fun y hy => by have := b2 y hy; omega)).mono ?_
        rintro e w3 ⟨rfl, rfl⟩
        go_wp2_with fail
        go_ret
        exact ⟨ret_eq (int_eq (by rw [Hfin.out, ← Hrr.out])), hbw1.trans (hb2.mono hbw1.size)⟩
  · have hfin : leastI x = 0 := by rw [leastI, if_pos hst]
    have Hfin := Lib.hid hfin; clear hfin
    have Hl := Lib.hid hl; clear hl
    go_enter Tryz.func148, Tryz.ntmps148
    go_wp2_with (go_at_call 147; refine (isSteady_c A n c x _ sl0 hn hlz hs).mono ?_; rintro e w1 ⟨rfl, hb1⟩)
    go_ret
    exact ⟨ret_eq (int_eq Hfin.out.symm), hb0.trans (hb1.mono (by simp))⟩
end Go.Proofs.YtpfnnjcochhklaaGreatDoor

/- Characters: valid ones. -/
namespace Go.Proofs.YtpfnnjcochhklaaGreatDoor
open Go.RowKit
def evenB (p : Int) : Bool := p.tmod 2 == 0
def validB (x : Ch) : Bool := shapeB x && (if steadyB x = true then x.p == 0 else inB x.p (leastI x) 600 && (!(x.k == 3) || evenB x.p))
set_option maxRecDepth 100000 in
set_option maxHeartbeats 1000000 in
theorem l05Ok_c (b off : Nat) (A : Option Addr) (n c : Nat) (x : Ch) (w : World) (h : ChP w b off A n c x) :
    Calls Tryz.prog 87 #[.pointer (some ⟨b, off, none⟩)] w fun e w' => e = .returned (.bool (validB x)) ∧ Below w.heap.size w w' := by
  cases hsh : shapeB x
  · have hv : validB x = false := by rw [validB, hsh]; rfl
    rw [hv]
    have Hv := Lib.hid hv; clear hv
    go_enter Tryz.func87, Tryz.ntmps87
    go_wp2_with (first | (go_at_call 116; refine (l05Shape_c b off A n c x _ h).mono ?_; rintro e w1 ⟨rfl, hb1⟩; have h1 := h.next hb1; have c0' := h1.c0; have c4' := h1.c4) | (go_at_call 102; refine (l05Steady_c b off A n c x _ h1).mono ?_; rintro e w9 ⟨rfl, rfl⟩))
    go_ret
    exact ⟨rfl, hb1⟩
  · cases hst : steadyB x
    · obtain ⟨m, hle⟩ : ∃ m, leastI x = m := ⟨_, rfl⟩
      have hv : validB x = (inB x.p m 600 && (!(x.k == 3) || evenB x.p)) := by rw [validB, hsh, hst, ← hle]; rfl
      rw [hv]
      have Hv := Lib.hid hv; clear hv
      have hL : ∀ w1, ChP w1 b off A n c x → Calls Tryz.prog 101 #[.pointer (some ⟨b, off, none⟩)] w1 fun e w' => e = .returned (.int .i64 m) ∧ Below w1.heap.size w1 w' := fun w1 hh => hle ▸ l05Least_c b off A n c x w1 hh hsh
      have HL := Lib.hid hL; clear hL
      have Hle := Lib.hid hle; clear hle
      cases hk3 : (x.k == 3)
      · go_enter Tryz.func87, Tryz.ntmps87
        go_wp2_with (first | (go_at_call 116; refine (l05Shape_c b off A n c x _ h).mono ?_; rintro e w1 ⟨rfl, hb1⟩; have h1 := h.next hb1; have c0' := h1.c0; have c4' := h1.c4) | (go_at_call 102; refine (l05Steady_c b off A n c x _ h1).mono ?_; rintro e w9 ⟨rfl, rfl⟩))
        have hz1 : b < w1.heap.size := h1.hb
        have e1 : ∀ {w' : World}, Below w1.heap.size w1 w' → (Below w1.heap.size w1 w' ∧ (∀ x, w'.cell? ⟨b, x, none⟩ = w1.cell? ⟨b, x, none⟩)) := fun hb => ⟨hb, keepC hb _ hz1⟩
        go_region_held3 (fun w' => Below w1.heap.size w1 w' ∧ (∀ x, w'.cell? ⟨b, x, none⟩ = w1.cell? ⟨b, x, none⟩)) (first | exact e1 (Below.refl _ _).drew | exact e1 ((Below.refl _ _).drew.trans hb7)) (first | (go_at_call 101; refine (HL.out _ (h1.next (Below.refl _ _).drew)).mono ?_; rintro e w7 ⟨rfl, hb7⟩) | (go_at_call 82; refine (l00In_c _ _ _ _).mono ?_; rintro e w8 ⟨rfl, rfl⟩))
        go_wp2_with fail
        go_ret
        exact ⟨ret_eq (bool_eq (by simp)), hb1.trans (((Below.refl _ _).drew.trans hb7).mono hb1.size)⟩
      · cases hev : evenB x.p
        · have hev' : (x.p.tmod 2 != 0) = true := by simpa [evenB] using hev
          have Hev := Lib.hid hev; clear hev
          go_enter Tryz.func87, Tryz.ntmps87
          go_wp2_with (first | (go_at_call 116; refine (l05Shape_c b off A n c x _ h).mono ?_; rintro e w1 ⟨rfl, hb1⟩; have h1 := h.next hb1; have c0' := h1.c0; have c4' := h1.c4) | (go_at_call 102; refine (l05Steady_c b off A n c x _ h1).mono ?_; rintro e w9 ⟨rfl, rfl⟩))
          go_ret
          exact ⟨ret_eq (bool_eq (by simp)), hb1⟩
        · have hev' : (x.p.tmod 2 != 0) = false := by simpa [evenB] using hev
          have Hev := Lib.hid hev; clear hev
          go_enter Tryz.func87, Tryz.ntmps87
          go_wp2_with (first | (go_at_call 116; refine (l05Shape_c b off A n c x _ h).mono ?_; rintro e w1 ⟨rfl, hb1⟩; have h1 := h.next hb1; have c0' := h1.c0; have c4' := h1.c4) | (go_at_call 102; refine (l05Steady_c b off A n c x _ h1).mono ?_; rintro e w9 ⟨rfl, rfl⟩))
          have hz1 : b < w1.heap.size := h1.hb
          have e1 : ∀ {w' : World}, Below w1.heap.size w1 w' → (Below w1.heap.size w1 w' ∧ (∀ x, w'.cell? ⟨b, x, none⟩ = w1.cell? ⟨b, x, none⟩)) := fun hb => ⟨hb, keepC hb _ hz1⟩
          go_region_held3 (fun w' => Below w1.heap.size w1 w' ∧ (∀ x, w'.cell? ⟨b, x, none⟩ = w1.cell? ⟨b, x, none⟩)) (first | exact e1 (Below.refl _ _).drew | exact e1 ((Below.refl _ _).drew.trans hb7)) (first | (go_at_call 101; refine (HL.out _ (h1.next (Below.refl _ _).drew)).mono ?_; rintro e w7 ⟨rfl, hb7⟩) | (go_at_call 82; refine (l00In_c _ _ _ _).mono ?_; rintro e w8 ⟨rfl, rfl⟩))
          go_wp2_with fail
          go_ret
          exact ⟨ret_eq (bool_eq (by simp)), hb1.trans (((Below.refl _ _).drew.trans hb7).mono hb1.size)⟩
    · have hv : validB x = (x.p == 0) := by rw [validB, hsh, hst]; rfl
      rw [hv]
      have Hv := Lib.hid hv; clear hv
      go_enter Tryz.func87, Tryz.ntmps87
      go_wp2_with (first | (go_at_call 116; refine (l05Shape_c b off A n c x _ h).mono ?_; rintro e w1 ⟨rfl, hb1⟩; have h1 := h.next hb1; have c0' := h1.c0; have c4' := h1.c4) | (go_at_call 102; refine (l05Steady_c b off A n c x _ h1).mono ?_; rintro e w9 ⟨rfl, rfl⟩))
      go_ret
      exact ⟨rfl, hb1⟩
set_option maxRecDepth 100000 in
set_option maxHeartbeats 1000000 in
theorem implValid_c (A : Option Addr) (n c : Nat) (x : Ch) (w : World) (sl : Sl w w.heap.size 1 A n (x.gs.flatMap intC)) (hn : n ≤ 1048576) (hlz : x.l.size ≤ 1048576) (hs : x.cs.size ≤ 1048576) :
    Calls Tryz.prog 131 #[chV x.k A n c x.l x.cs x.p] w fun e w' => e = .returned (.bool (validB x)) ∧ Below w.heap.size w w' := by
  have hb0 : Below w.heap.size w (w.alloc (.cells #[.int .i64 x.k, .slice A n c, .string x.l, .string x.cs, .int .i64 x.p] 53)) := by (repeat (first | (with_reducible assumption) | (with_reducible exact Below.refl _ _) | exact Nat.le_refl _ | exact Below.size (by with_reducible assumption) | (with_reducible refine Below.drew ?_) | (with_reducible refine below_drewN ?_ _) | (with_reducible refine Below.alloc ?_ ?_ _) | (with_reducible refine Below.setCell ?_ ?_ _) | (with_reducible refine le_alloc ?_ _) | (with_reducible refine le_set ?_ _ _) | (with_reducible refine le_drew ?_) | (with_reducible refine le_drewN ?_ _) | omega | (dsimp only; omega)))
  have sl0 := sl.next hb0
  cases hcs : colorsB x.cs
  · have hv : validB x = false := by rw [validB, shapeB, hcs]; rfl
    rw [hv]
    have Hv := Lib.hid hv; clear hv
    go_enter Tryz.func131, Tryz.ntmps131
    go_wp2_with (first | (go_at_call 145; refine (areCharacterColors_c _ _ (by unfold maxLen; omega)).mono ?_; rintro e w1 ⟨rfl, rfl⟩) | (go_at_call 146; refine (fits_c A n c x _ sl0 hn hlz hs).mono ?_; rintro e w1 ⟨rfl, hb1⟩; have q1 := keepC hb1 w.heap.size (by simp); have sl1 := sl0.next hb1; have hbw1 := hb0.trans (hb1.mono (by simp))) | (go_at_call 147; refine (isSteady_c A n c x _ sl1 hn hlz hs).mono ?_; rintro e w2 ⟨rfl, hb2⟩; have q2 := keepC hb2 w.heap.size (Nat.lt_of_lt_of_le (by simp) hb1.size); have sl2 := sl1.next hb2; have hbw2 := hbw1.trans (hb2.mono hbw1.size)))
    go_ret
    exact ⟨rfl, hb0⟩
  cases hf : fitsB x
  · have hv : validB x = false := by rw [validB, shapeB, hcs, hf]; rfl
    rw [hv]
    have Hv := Lib.hid hv; clear hv
    go_enter Tryz.func131, Tryz.ntmps131
    go_wp2_with (first | (go_at_call 145; refine (areCharacterColors_c _ _ (by unfold maxLen; omega)).mono ?_; rintro e w1 ⟨rfl, rfl⟩) | (go_at_call 146; refine (fits_c A n c x _ sl0 hn hlz hs).mono ?_; rintro e w1 ⟨rfl, hb1⟩; have q1 := keepC hb1 w.heap.size (by simp); have sl1 := sl0.next hb1; have hbw1 := hb0.trans (hb1.mono (by simp))) | (go_at_call 147; refine (isSteady_c A n c x _ sl1 hn hlz hs).mono ?_; rintro e w2 ⟨rfl, hb2⟩; have q2 := keepC hb2 w.heap.size (Nat.lt_of_lt_of_le (by simp) hb1.size); have sl2 := sl1.next hb2; have hbw2 := hbw1.trans (hb2.mono hbw1.size)))
    go_ret
    exact ⟨rfl, hbw1⟩
  have hsh : shapeB x = true := by rw [shapeB, hcs, hf]; rfl
  cases hst : steadyB x
  · obtain ⟨m, hle⟩ : ∃ m, leastI x = m := ⟨_, rfl⟩
    have hv : validB x = (inB x.p m 600 && (!(x.k == 3) || evenB x.p)) := by rw [validB, hsh, hst, ← hle]; rfl
    rw [hv]
    have Hv := Lib.hid hv; clear hv
    have hL : ∀ w1, Sl w1 w1.heap.size 1 A n (x.gs.flatMap intC) → Calls Tryz.prog 148 #[chV x.k A n c x.l x.cs x.p] w1 fun e w' => e = .returned (.int .i64 m) ∧ Below w1.heap.size w1 w' := fun w1 hh => hle ▸ leastPeriod_c A n c x w1 hh hn hlz hs hsh
    have HL := Lib.hid hL; clear hL
    have Hle := Lib.hid hle; clear hle
    have Hsh := Lib.hid hsh; clear hsh
    cases hin : inB x.p m 600
    all_goals
      cases hk3 : (x.k == 3)
    all_goals
      have hk3' : (x.k != 3) = !(x.k == 3) := rfl
      rw [hk3] at hk3'
      simp only [Bool.not_true, Bool.not_false] at hk3'
      go_enter Tryz.func131, Tryz.ntmps131
      go_wp2_with (first | (go_at_call 145; refine (areCharacterColors_c _ _ (by unfold maxLen; omega)).mono ?_; rintro e w1 ⟨rfl, rfl⟩) | (go_at_call 146; refine (fits_c A n c x _ sl0 hn hlz hs).mono ?_; rintro e w1 ⟨rfl, hb1⟩; have q1 := keepC hb1 w.heap.size (by simp); have sl1 := sl0.next hb1; have hbw1 := hb0.trans (hb1.mono (by simp))) | (go_at_call 147; refine (isSteady_c A n c x _ sl1 hn hlz hs).mono ?_; rintro e w2 ⟨rfl, hb2⟩; have q2 := keepC hb2 w.heap.size (Nat.lt_of_lt_of_le (by simp) hb1.size); have sl2 := sl1.next hb2; have hbw2 := hbw1.trans (hb2.mono hbw1.size)))
      have z2 : w.heap.size < w2.heap.size := Nat.lt_of_lt_of_le (by simp) (Nat.le_trans hb1.size hb2.size)
      have e1 : ∀ {w' : World}, Below w2.heap.size w2 w' → (Below w2.heap.size w2 w' ∧ (∀ x, w'.cell? ⟨w.heap.size, x, none⟩ = w2.cell? ⟨w.heap.size, x, none⟩)) := fun hb => ⟨hb, keepC hb _ z2⟩
      refine wp_region_held_drew (S := fun w' => Below w2.heap.size w2 w' ∧ (∀ x, w'.cell? ⟨w.heap.size, x, none⟩ = w2.cell? ⟨w.heap.size, x, none⟩)) (by kernel_rfl) (e1 (Below.refl _ _).drew) (fun hHeld => ?_)
      (first
        | (refine wpAnyH_take (i := 0) (v := ?_) rfl (by kernel_rfl) (by kernel_rfl) (by kernel_rfl) (fun _ _ _ h => h) (Or.inl ⟨by rfl, ?_⟩) (by assumption) ?_
           rotate_left
           focus (intro wq hSq; (try dsimp only at hSq); go_simp; (try (with_reducible rfl)); done))
        | (refine wpAnyH_take (i := 0) (v := undef) rfl (by kernel_rfl) (by kernel_rfl) (by kernel_rfl) (fun _ _ _ h => h) (Or.inr ⟨by rfl, rfl⟩) (by assumption) ?_)
        | fail "take 0")
      try simp only [Act.put, List.setIfInBounds_toArray, List.set_cons_zero, List.set_cons_succ, List.getElem_toArray, List.getElem_cons_zero]
      (first
        | (refine wpAnyH_take (i := 1) (v := ?_) rfl (by kernel_rfl) (by kernel_rfl) (by kernel_rfl) (fun _ _ _ h => h) (Or.inl ⟨by rfl, ?_⟩) (by assumption) ?_
           rotate_left
           focus (intro wq hSq; (try dsimp only at hSq); go_simp; (try (with_reducible rfl)); done))
        | (refine wpAnyH_take (i := 1) (v := undef) rfl (by kernel_rfl) (by kernel_rfl) (by kernel_rfl) (fun _ _ _ h => h) (Or.inr ⟨by rfl, rfl⟩) (by assumption) ?_)
        | fail "take 1")
      try simp only [Act.put, List.setIfInBounds_toArray, List.set_cons_zero, List.set_cons_succ, List.getElem_toArray, List.getElem_cons_zero, List.getElem_cons_succ]
      (first
        | (refine wpAnyH_take (i := 2) (v := ?_) rfl (by kernel_rfl) (by kernel_rfl) (by kernel_rfl) (fun _ _ _ h => h) (Or.inl ⟨by rfl, ?_⟩) (by assumption) ?_
           rotate_left
           focus (intro wq hSq; (try dsimp only at hSq); go_simp; (try (with_reducible rfl)); done))
        | (refine wpAnyH_take (i := 2) (v := undef) rfl (by kernel_rfl) (by kernel_rfl) (by kernel_rfl) (fun _ _ _ h => h) (Or.inr ⟨by rfl, rfl⟩) (by assumption) ?_)
        | fail "take 2")
      try simp only [Act.put, List.setIfInBounds_toArray, List.set_cons_zero, List.set_cons_succ, List.getElem_toArray, List.getElem_cons_zero, List.getElem_cons_succ]
      refine wpAnyH_ready (rs := [3]) (by kernel_rfl) (by simp) ?_
      refine AllReadyH.cons (o := _) rfl (fun K hK => ?_) AllReadyH.nil
      go_simp
      refine (HL.out _ (sl2.next (Below.refl _ _).drew)).mono ?_; rintro e w7 ⟨rfl, hb7⟩
      refine hK.out _ _ ?_ (fun hHeld => ?_)
      · exact e1 ((Below.refl _ _).drew.trans hb7)
      clear hK K
      try simp only [Act.put, List.setIfInBounds_toArray, List.set_cons_zero, List.set_cons_succ, List.getElem_toArray, List.getElem_cons_zero, List.getElem_cons_succ]
      refine wpAnyH_ready (rs := [4]) (by kernel_rfl) (by simp) ?_
      refine AllReadyH.cons (o := _) rfl (fun K hK => ?_) AllReadyH.nil
      go_simp
      refine (within_c _ _ _ _).mono ?_; rintro e w8 ⟨rfl, rfl⟩
      refine hK.out _ _ ?_ (fun hHeld => ?_)
      · exact e1 ((Below.refl _ _).drew.trans hb7)
      clear hK K
      try simp only [Act.put, List.setIfInBounds_toArray, List.set_cons_zero, List.set_cons_succ, List.getElem_toArray, List.getElem_cons_zero, List.getElem_cons_succ]
      (first
        | (refine wpAnyH_take (i := 5) (v := ?_) rfl (by kernel_rfl) (by kernel_rfl) (by kernel_rfl) (fun _ _ _ h => h) (Or.inl ⟨by rfl, ?_⟩) (by assumption) ?_
           rotate_left
           focus (intro wq hSq; (try dsimp only at hSq); go_simp; (try (with_reducible rfl)); done))
        | (refine wpAnyH_take (i := 5) (v := undef) rfl (by kernel_rfl) (by kernel_rfl) (by kernel_rfl) (fun _ _ _ h => h) (Or.inr ⟨by rfl, rfl⟩) (by assumption) ?_)
        | fail "take 5")
      try simp only [Act.put, List.setIfInBounds_toArray, List.set_cons_zero, List.set_cons_succ, List.getElem_toArray, List.getElem_cons_zero, List.getElem_cons_succ]
      (first
        | (refine wpAnyH_take (i := 6) (v := ?_) rfl (by kernel_rfl) (by kernel_rfl) (by kernel_rfl) (fun _ _ _ h => h) (Or.inl ⟨by rfl, ?_⟩) (by assumption) ?_
           rotate_left
           focus (intro wq hSq; (try dsimp only at hSq); go_simp; (try (with_reducible rfl)); done))
        | (refine wpAnyH_take (i := 6) (v := undef) rfl (by kernel_rfl) (by kernel_rfl) (by kernel_rfl) (fun _ _ _ h => h) (Or.inr ⟨by rfl, rfl⟩) (by assumption) ?_)
        | fail "take 6")
      try simp only [Act.put, List.setIfInBounds_toArray, List.set_cons_zero, List.set_cons_succ, List.getElem_toArray, List.getElem_cons_zero, List.getElem_cons_succ]
      (first
        | (refine wpAnyH_take (i := 7) (v := ?_) rfl (by kernel_rfl) (by kernel_rfl) (by kernel_rfl) (fun _ _ _ h => h) (Or.inl ⟨by rfl, ?_⟩) (by assumption) ?_
           rotate_left
           focus (intro wq hSq; (try dsimp only at hSq); go_simp; (try (with_reducible rfl)); done))
        | (refine wpAnyH_take (i := 7) (v := undef) rfl (by kernel_rfl) (by kernel_rfl) (by kernel_rfl) (fun _ _ _ h => h) (Or.inr ⟨by rfl, rfl⟩) (by assumption) ?_)
        | fail "take 7")
      try simp only [Act.put, List.setIfInBounds_toArray, List.set_cons_zero, List.set_cons_succ, List.getElem_toArray, List.getElem_cons_zero, List.getElem_cons_succ]
      (first
        | (refine wpAnyH_take (i := 8) (v := ?_) rfl (by kernel_rfl) (by kernel_rfl) (by kernel_rfl) (fun _ _ _ h => h) (Or.inl ⟨by rfl, ?_⟩) (by assumption) ?_
           rotate_left
           focus (intro wq hSq; (try dsimp only at hSq); go_simp; (try (with_reducible rfl)); done))
        | (refine wpAnyH_take (i := 8) (v := undef) rfl (by kernel_rfl) (by kernel_rfl) (by kernel_rfl) (fun _ _ _ h => h) (Or.inr ⟨by rfl, rfl⟩) (by assumption) ?_)
        | fail "take 8")
      try simp only [Act.put, List.setIfInBounds_toArray, List.set_cons_zero, List.set_cons_succ, List.getElem_toArray, List.getElem_cons_zero, List.getElem_cons_succ]
      (first
        | (refine wpAnyH_take (i := 9) (v := ?_) rfl (by kernel_rfl) (by kernel_rfl) (by kernel_rfl) (fun _ _ _ h => h) (Or.inl ⟨by rfl, ?_⟩) (by assumption) ?_
           rotate_left
           focus (intro wq hSq; (try dsimp only at hSq); go_simp; (try (with_reducible rfl)); done))
        | (refine wpAnyH_take (i := 9) (v := undef) rfl (by kernel_rfl) (by kernel_rfl) (by kernel_rfl) (fun _ _ _ h => h) (Or.inr ⟨by rfl, rfl⟩) (by assumption) ?_)
        | fail "take 9")
      try simp only [Act.put, List.setIfInBounds_toArray, List.set_cons_zero, List.set_cons_succ, List.getElem_toArray, List.getElem_cons_zero, List.getElem_cons_succ]
      (first
        | (refine wpAnyH_take (i := 10) (v := ?_) rfl (by kernel_rfl) (by kernel_rfl) (by kernel_rfl) (fun _ _ _ h => h) (Or.inl ⟨by rfl, ?_⟩) (by assumption) ?_
           rotate_left
           focus (intro wq hSq; (try dsimp only at hSq); go_simp; (try (with_reducible rfl)); done))
        | (refine wpAnyH_take (i := 10) (v := undef) rfl (by kernel_rfl) (by kernel_rfl) (by kernel_rfl) (fun _ _ _ h => h) (Or.inr ⟨by rfl, rfl⟩) (by assumption) ?_)
        | fail "take 10")
      try simp only [Act.put, List.setIfInBounds_toArray, List.set_cons_zero, List.set_cons_succ, List.getElem_toArray, List.getElem_cons_zero, List.getElem_cons_succ]
      (first
        | (refine wpAnyH_take (i := 11) (v := ?_) rfl (by kernel_rfl) (by kernel_rfl) (by kernel_rfl) (fun _ _ _ h => h) (Or.inl ⟨by rfl, ?_⟩) (by assumption) ?_
           rotate_left
           focus (intro wq hSq; (try dsimp only at hSq); go_simp; (try (with_reducible rfl)); done))
        | (refine wpAnyH_take (i := 11) (v := undef) rfl (by kernel_rfl) (by kernel_rfl) (by kernel_rfl) (fun _ _ _ h => h) (Or.inr ⟨by rfl, rfl⟩) (by assumption) ?_)
        | fail "take 11")
      try simp only [Act.put, List.setIfInBounds_toArray, List.set_cons_zero, List.set_cons_succ, List.getElem_toArray, List.getElem_cons_zero, List.getElem_cons_succ]
      (first
        | (refine wpAnyH_take (i := 12) (v := ?_) rfl (by kernel_rfl) (by kernel_rfl) (by kernel_rfl) (fun _ _ _ h => h) (Or.inl ⟨by rfl, ?_⟩) (by assumption) ?_
           rotate_left
           focus (intro wq hSq; (try dsimp only at hSq); go_simp; (try (with_reducible rfl)); done))
        | (refine wpAnyH_take (i := 12) (v := undef) rfl (by kernel_rfl) (by kernel_rfl) (by kernel_rfl) (fun _ _ _ h => h) (Or.inr ⟨by rfl, rfl⟩) (by assumption) ?_)
        | fail "take 12")
      try simp only [Act.put, List.setIfInBounds_toArray, List.set_cons_zero, List.set_cons_succ, List.getElem_toArray, List.getElem_cons_zero, List.getElem_cons_succ]
      (first
        | (refine wpAnyH_take (i := 13) (v := ?_) rfl (by kernel_rfl) (by kernel_rfl) (by kernel_rfl) (fun _ _ _ h => h) (Or.inl ⟨by rfl, ?_⟩) (by assumption) ?_
           rotate_left
           focus (intro wq hSq; (try dsimp only at hSq); go_simp; (try (with_reducible rfl)); done))
        | (refine wpAnyH_take (i := 13) (v := undef) rfl (by kernel_rfl) (by kernel_rfl) (by kernel_rfl) (fun _ _ _ h => h) (Or.inr ⟨by rfl, rfl⟩) (by assumption) ?_)
        | fail "take 13")
      try simp only [Act.put, List.setIfInBounds_toArray, List.set_cons_zero, List.set_cons_succ, List.getElem_toArray, List.getElem_cons_zero, List.getElem_cons_succ]
      (first
        | (refine wpAnyH_take (i := 14) (v := ?_) rfl (by kernel_rfl) (by kernel_rfl) (by kernel_rfl) (fun _ _ _ h => h) (Or.inl ⟨by rfl, ?_⟩) (by assumption) ?_
           rotate_left
           focus (intro wq hSq; (try dsimp only at hSq); go_simp; (try (with_reducible rfl)); done))
        | (refine wpAnyH_take (i := 14) (v := undef) rfl (by kernel_rfl) (by kernel_rfl) (by kernel_rfl) (fun _ _ _ h => h) (Or.inr ⟨by rfl, rfl⟩) (by assumption) ?_)
        | fail "take 14")
      try simp only [Act.put, List.setIfInBounds_toArray, List.set_cons_zero, List.set_cons_succ, List.getElem_toArray, List.getElem_cons_zero, List.getElem_cons_succ]
      (first
        | (refine wpAnyH_take (i := 15) (v := ?_) rfl (by kernel_rfl) (by kernel_rfl) (by kernel_rfl) (fun _ _ _ h => h) (Or.inl ⟨by rfl, ?_⟩) (by assumption) ?_
           rotate_left
           focus (intro wq hSq; (try dsimp only at hSq); go_simp; (try (with_reducible rfl)); done))
        | (refine wpAnyH_take (i := 15) (v := undef) rfl (by kernel_rfl) (by kernel_rfl) (by kernel_rfl) (fun _ _ _ h => h) (Or.inr ⟨by rfl, rfl⟩) (by assumption) ?_)
        | fail "take 15")
      try simp only [Act.put, List.setIfInBounds_toArray, List.set_cons_zero, List.set_cons_succ, List.getElem_toArray, List.getElem_cons_zero, List.getElem_cons_succ]
      (first
        | (refine wpAnyH_take (i := 16) (v := ?_) rfl (by kernel_rfl) (by kernel_rfl) (by kernel_rfl) (fun _ _ _ h => h) (Or.inl ⟨by rfl, ?_⟩) (by assumption) ?_
           rotate_left
           focus (intro wq hSq; (try dsimp only at hSq); go_simp; (try (with_reducible rfl)); done))
        | (refine wpAnyH_take (i := 16) (v := undef) rfl (by kernel_rfl) (by kernel_rfl) (by kernel_rfl) (fun _ _ _ h => h) (Or.inr ⟨by rfl, rfl⟩) (by assumption) ?_)
        | fail "take 16")
      try simp only [Act.put, List.setIfInBounds_toArray, List.set_cons_zero, List.set_cons_succ, List.getElem_toArray, List.getElem_cons_zero, List.getElem_cons_succ]
      refine wpAnyH_done (by kernel_rfl) ?_ _
      have hb8 := (Below.refl w2.heap.size w2).drew.trans hb7
      go_wp2_with fail
      go_ret
      exact ⟨ret_eq (bool_eq (by simp_all [evenB])), hbw2.trans (hb8.mono hbw2.size)⟩
  · have hv : validB x = (x.p == 0) := by rw [validB, hsh, hst]; rfl
    rw [hv]
    have Hv := Lib.hid hv; clear hv
    have Hsh := Lib.hid hsh; clear hsh
    go_enter Tryz.func131, Tryz.ntmps131
    go_wp2_with (first | (go_at_call 145; refine (areCharacterColors_c _ _ (by unfold maxLen; omega)).mono ?_; rintro e w1 ⟨rfl, rfl⟩) | (go_at_call 146; refine (fits_c A n c x _ sl0 hn hlz hs).mono ?_; rintro e w1 ⟨rfl, hb1⟩; have q1 := keepC hb1 w.heap.size (by simp); have sl1 := sl0.next hb1; have hbw1 := hb0.trans (hb1.mono (by simp))) | (go_at_call 147; refine (isSteady_c A n c x _ sl1 hn hlz hs).mono ?_; rintro e w2 ⟨rfl, hb2⟩; have q2 := keepC hb2 w.heap.size (Nat.lt_of_lt_of_le (by simp) hb1.size); have sl2 := sl1.next hb2; have hbw2 := hbw1.trans (hb2.mono hbw1.size)))
    go_ret
    exact ⟨rfl, hbw2⟩
end Go.Proofs.YtpfnnjcochhklaaGreatDoor
