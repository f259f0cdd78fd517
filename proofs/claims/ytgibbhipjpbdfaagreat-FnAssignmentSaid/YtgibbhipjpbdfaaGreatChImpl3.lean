
/- Characters: steady, fits. -/
import Derived.Test.YtgibbhipjpbdfaaGreatChImpl2
namespace Go.Proofs.YtgibbhipjpbdfaaGreat
open Go.RowKit
set_option maxRecDepth 100000 in
set_option maxHeartbeats 1000000 in
theorem isSteady_c (A : Option Addr) (n c : Nat) (x : Ch) (w : World) (sl : Sl w w.heap.size 1 A n (x.gs.flatMap intC)) (_ : n ≤ 1048576) (_ : x.l.size ≤ 1048576) (_ : x.cs.size ≤ 1048576) :
    Calls Tryz.prog 61 #[chV x.k A n c x.l x.cs x.p] w fun e w' => e = .returned (.bool (steadyB x)) ∧ Below w.heap.size w w' := by
  have hl := sl.len intC 1 intC_len (by omega)
  have hg : decide (x.gs = []) = ((n : Int) == 0) := by
    rw [Bool.eq_iff_iff]; simp [← hl, List.length_eq_zero_iff]
  have hst : steadyB x = ((x.k == 1) || ((decide (x.k = 6) || decide (x.k = 7)) && ((n : Int) == 0))) := by
    rw [steadyB, hg, show decide (x.k = 1) = (x.k == 1) by rw [Bool.eq_iff_iff]; simp]
  have Hl := Lib.hid hl; clear hl
  have Hg := Lib.hid hg; clear hg
  rw [hst]
  have Hst := Lib.hid hst; clear hst
  go_enter Tryz.func61, Tryz.ntmps61
  go_wp2_with (go_at_call 87; refine (isQuick_c _ _).mono ?_; rintro e w1 ⟨rfl, rfl⟩)
  all_goals
    go_ret
    refine ⟨ret_eq (bool_eq ?_), by (repeat (first | (with_reducible assumption) | (with_reducible exact Below.refl _ _) | exact Nat.le_refl _ | exact Below.size (by with_reducible assumption) | (with_reducible refine Below.drew ?_) | (with_reducible refine below_drewN ?_ _) | (with_reducible refine Below.alloc ?_ ?_ _) | (with_reducible refine Below.setCell ?_ ?_ _) | (with_reducible refine le_alloc ?_ _) | (with_reducible refine le_set ?_ _ _) | (with_reducible refine le_drew ?_) | (with_reducible refine le_drewN ?_ _) | omega | (dsimp only; omega)))⟩
    rw [Bool.eq_iff_iff]
    try simp_all
theorem signsV_E (l : ByteArray) : (signsV l).toList.isEmpty = !letterB l := by
  unfold signsV
  cases h : letterB l
  · simp
  · have h1 : letterB l = true := h
    simp only [letterB, Bool.and_eq_true, decide_eq_true_eq] at h1
    have hm := morse_size (bt l 0 - 65).toNat (by omega)
    have := isE_no (s := morse (bt l 0 - 65).toNat) (by omega)
    simpa using this
theorem groupB_nil : groupB [] = true := rfl
theorem groupB_one (y : Int) : groupB [y] = inB y 2 9 := by
  rw [Bool.eq_iff_iff, inB_iff]
  simp [groupB, allB, goodG, inB]
  omega
set_option maxRecDepth 100000 in
set_option maxHeartbeats 1000000 in
theorem fits_c (A : Option Addr) (n c : Nat) (x : Ch) (w : World) (sl : Sl w w.heap.size 1 A n (x.gs.flatMap intC)) (hn : n ≤ 1048576) (hlz : x.l.size ≤ 1048576) (hs : x.cs.size ≤ 1048576) :
    Calls Tryz.prog 60 #[chV x.k A n c x.l x.cs x.p] w fun e w' => e = .returned (.bool (fitsB x)) ∧ Below w.heap.size w w' := by
  have hl := sl.len intC 1 intC_len (by omega)
  have hg : decide (x.gs = []) = ((n : Int) == 0) := by
    rw [Bool.eq_iff_iff]; simp [← hl, List.length_eq_zero_iff]
  have Hl := Lib.hid hl; clear hl
  obtain ⟨k, gs, l, cs, p⟩ := x
  simp only at sl hlz hs hg
  have Hl : Hid (gs.length = n) := Hl
  by_cases hk : 1 ≤ k ∧ k ≤ 8
  · rcases (show k = 1 ∨ k = 2 ∨ k = 3 ∨ k = 4 ∨ k = 5 ∨ k = 6 ∨ k = 7 ∨ k = 8 by omega) with rfl | rfl | rfl | rfl | rfl | rfl | rfl | rfl
    · have hf : fitsB ⟨1, gs, l, cs, p⟩ = (((n : Int) == 0) && l.toList.isEmpty) := by rw [← hg]; simp [fitsB, isE]
      rw [hf]
      have Hf := Lib.hid hf; clear hf
      have Hg := Lib.hid hg; clear hg
      cases hE : l.toList.isEmpty
      all_goals
        cases hz : ((n : Int) == 0)
      all_goals
        go_enter Tryz.func60, Tryz.ntmps60
        go_wp2
        go_ret
        exact ⟨rfl, by (repeat (first | (with_reducible assumption) | (with_reducible exact Below.refl _ _) | exact Nat.le_refl _ | exact Below.size (by with_reducible assumption) | (with_reducible refine Below.drew ?_) | (with_reducible refine below_drewN ?_ _) | (with_reducible refine Below.alloc ?_ ?_ _) | (with_reducible refine Below.setCell ?_ ?_ _) | (with_reducible refine le_alloc ?_ _) | (with_reducible refine le_set ?_ _ _) | (with_reducible refine le_drew ?_) | (with_reducible refine le_drewN ?_ _) | omega | (dsimp only; omega)))⟩
    · have hf : fitsB ⟨2, gs, l, cs, p⟩ = (l.toList.isEmpty && groupB gs) := by simp [fitsB, isE]
      rw [hf]
      have Hf := Lib.hid hf; clear hf
      have Hg := Lib.hid hg; clear hg
      cases hE : l.toList.isEmpty
      · go_enter Tryz.func60, Tryz.ntmps60
        go_wp2
        go_ret
        exact ⟨rfl, by (repeat (first | (with_reducible assumption) | (with_reducible exact Below.refl _ _) | exact Nat.le_refl _ | exact Below.size (by with_reducible assumption) | (with_reducible refine Below.drew ?_) | (with_reducible refine below_drewN ?_ _) | (with_reducible refine Below.alloc ?_ ?_ _) | (with_reducible refine Below.setCell ?_ ?_ _) | (with_reducible refine le_alloc ?_ _) | (with_reducible refine le_set ?_ _ _) | (with_reducible refine le_drew ?_) | (with_reducible refine le_drewN ?_ _) | omega | (dsimp only; omega)))⟩
      · go_enter Tryz.func60, Tryz.ntmps60
        go_wp2_with (go_at_call 84; refine (isGroup_c A n c gs _ (sl.next (by (repeat (first | (with_reducible assumption) | (with_reducible exact Below.refl _ _) | exact Nat.le_refl _ | exact Below.size (by with_reducible assumption) | (with_reducible refine Below.drew ?_) | (with_reducible refine below_drewN ?_ _) | (with_reducible refine Below.alloc ?_ ?_ _) | (with_reducible refine Below.setCell ?_ ?_ _) | (with_reducible refine le_alloc ?_ _) | (with_reducible refine le_set ?_ _ _) | (with_reducible refine le_drew ?_) | (with_reducible refine le_drewN ?_ _) | omega | (dsimp only; omega))))) hn).mono ?_; rintro e w1 ⟨rfl, hb1⟩)
        go_ret
        exact ⟨rfl, Below.trans (by (repeat (first | (with_reducible assumption) | (with_reducible exact Below.refl _ _) | exact Nat.le_refl _ | exact Below.size (by with_reducible assumption) | (with_reducible refine Below.drew ?_) | (with_reducible refine below_drewN ?_ _) | (with_reducible refine Below.alloc ?_ ?_ _) | (with_reducible refine Below.setCell ?_ ?_ _) | (with_reducible refine le_alloc ?_ _) | (with_reducible refine le_set ?_ _ _) | (with_reducible refine le_drew ?_) | (with_reducible refine le_drewN ?_ _) | omega | (dsimp only; omega)))) (hb1.mono (by simp))⟩
    · have hf : fitsB ⟨3, gs, l, cs, p⟩ = (((n : Int) == 0) && l.toList.isEmpty) := by rw [← hg]; simp [fitsB, isE]
      rw [hf]
      have Hf := Lib.hid hf; clear hf
      have Hg := Lib.hid hg; clear hg
      cases hE : l.toList.isEmpty
      all_goals
        cases hz : ((n : Int) == 0)
      all_goals
        go_enter Tryz.func60, Tryz.ntmps60
        go_wp2
        go_ret
        exact ⟨rfl, by (repeat (first | (with_reducible assumption) | (with_reducible exact Below.refl _ _) | exact Nat.le_refl _ | exact Below.size (by with_reducible assumption) | (with_reducible refine Below.drew ?_) | (with_reducible refine below_drewN ?_ _) | (with_reducible refine Below.alloc ?_ ?_ _) | (with_reducible refine Below.setCell ?_ ?_ _) | (with_reducible refine le_alloc ?_ _) | (with_reducible refine le_set ?_ _ _) | (with_reducible refine le_drew ?_) | (with_reducible refine le_drewN ?_ _) | omega | (dsimp only; omega)))⟩
    · have hf : fitsB ⟨4, gs, l, cs, p⟩ = (l.toList.isEmpty && groupB gs) := by simp [fitsB, isE]
      rw [hf]
      have Hf := Lib.hid hf; clear hf
      have Hg := Lib.hid hg; clear hg
      cases hE : l.toList.isEmpty
      · go_enter Tryz.func60, Tryz.ntmps60
        go_wp2
        go_ret
        exact ⟨rfl, by (repeat (first | (with_reducible assumption) | (with_reducible exact Below.refl _ _) | exact Nat.le_refl _ | exact Below.size (by with_reducible assumption) | (with_reducible refine Below.drew ?_) | (with_reducible refine below_drewN ?_ _) | (with_reducible refine Below.alloc ?_ ?_ _) | (with_reducible refine Below.setCell ?_ ?_ _) | (with_reducible refine le_alloc ?_ _) | (with_reducible refine le_set ?_ _ _) | (with_reducible refine le_drew ?_) | (with_reducible refine le_drewN ?_ _) | omega | (dsimp only; omega)))⟩
      · go_enter Tryz.func60, Tryz.ntmps60
        go_wp2_with (go_at_call 84; refine (isGroup_c A n c gs _ (sl.next (by (repeat (first | (with_reducible assumption) | (with_reducible exact Below.refl _ _) | exact Nat.le_refl _ | exact Below.size (by with_reducible assumption) | (with_reducible refine Below.drew ?_) | (with_reducible refine below_drewN ?_ _) | (with_reducible refine Below.alloc ?_ ?_ _) | (with_reducible refine Below.setCell ?_ ?_ _) | (with_reducible refine le_alloc ?_ _) | (with_reducible refine le_set ?_ _ _) | (with_reducible refine le_drew ?_) | (with_reducible refine le_drewN ?_ _) | omega | (dsimp only; omega))))) hn).mono ?_; rintro e w1 ⟨rfl, hb1⟩)
        go_ret
        exact ⟨rfl, Below.trans (by (repeat (first | (with_reducible assumption) | (with_reducible exact Below.refl _ _) | exact Nat.le_refl _ | exact Below.size (by with_reducible assumption) | (with_reducible refine Below.drew ?_) | (with_reducible refine below_drewN ?_ _) | (with_reducible refine Below.alloc ?_ ?_ _) | (with_reducible refine Below.setCell ?_ ?_ _) | (with_reducible refine le_alloc ?_ _) | (with_reducible refine le_set ?_ _ _) | (with_reducible refine le_drew ?_) | (with_reducible refine le_drewN ?_ _) | omega | (dsimp only; omega)))) (hb1.mono (by simp))⟩
    · have hf : fitsB ⟨5, gs, l, cs, p⟩ = (l.toList.isEmpty && groupB gs) := by simp [fitsB, isE]
      rw [hf]
      have Hf := Lib.hid hf; clear hf
      have Hg := Lib.hid hg; clear hg
      cases hE : l.toList.isEmpty
      · go_enter Tryz.func60, Tryz.ntmps60
        go_wp2
        go_ret
        exact ⟨rfl, by (repeat (first | (with_reducible assumption) | (with_reducible exact Below.refl _ _) | exact Nat.le_refl _ | exact Below.size (by with_reducible assumption) | (with_reducible refine Below.drew ?_) | (with_reducible refine below_drewN ?_ _) | (with_reducible refine Below.alloc ?_ ?_ _) | (with_reducible refine Below.setCell ?_ ?_ _) | (with_reducible refine le_alloc ?_ _) | (with_reducible refine le_set ?_ _ _) | (with_reducible refine le_drew ?_) | (with_reducible refine le_drewN ?_ _) | omega | (dsimp only; omega)))⟩
      · go_enter Tryz.func60, Tryz.ntmps60
        go_wp2_with (go_at_call 84; refine (isGroup_c A n c gs _ (sl.next (by (repeat (first | (with_reducible assumption) | (with_reducible exact Below.refl _ _) | exact Nat.le_refl _ | exact Below.size (by with_reducible assumption) | (with_reducible refine Below.drew ?_) | (with_reducible refine below_drewN ?_ _) | (with_reducible refine Below.alloc ?_ ?_ _) | (with_reducible refine Below.setCell ?_ ?_ _) | (with_reducible refine le_alloc ?_ _) | (with_reducible refine le_set ?_ _ _) | (with_reducible refine le_drew ?_) | (with_reducible refine le_drewN ?_ _) | omega | (dsimp only; omega))))) hn).mono ?_; rintro e w1 ⟨rfl, hb1⟩)
        go_ret
        exact ⟨rfl, Below.trans (by (repeat (first | (with_reducible assumption) | (with_reducible exact Below.refl _ _) | exact Nat.le_refl _ | exact Below.size (by with_reducible assumption) | (with_reducible refine Below.drew ?_) | (with_reducible refine below_drewN ?_ _) | (with_reducible refine Below.alloc ?_ ?_ _) | (with_reducible refine Below.setCell ?_ ?_ _) | (with_reducible refine le_alloc ?_ _) | (with_reducible refine le_set ?_ _ _) | (with_reducible refine le_drew ?_) | (with_reducible refine le_drewN ?_ _) | omega | (dsimp only; omega)))) (hb1.mono (by simp))⟩
    · cases hE : l.toList.isEmpty
      · have hf : fitsB ⟨6, gs, l, cs, p⟩ = ((l.toList == [76]) && decide (gs = [6])) := by
          simp only [fitsB, isE, isL]; simp [hE]
          rw [Bool.eq_iff_iff]; simp
        rw [hf]
        have Hf := Lib.hid hf; clear hf
        have Hg := Lib.hid hg; clear hg
        cases hL : (l.toList == [76])
        · go_enter Tryz.func60, Tryz.ntmps60
          go_wp2
          go_ret
          exact ⟨rfl, by (repeat (first | (with_reducible assumption) | (with_reducible exact Below.refl _ _) | exact Nat.le_refl _ | exact Below.size (by with_reducible assumption) | (with_reducible refine Below.drew ?_) | (with_reducible refine below_drewN ?_ _) | (with_reducible refine Below.alloc ?_ ?_ _) | (with_reducible refine Below.setCell ?_ ?_ _) | (with_reducible refine le_alloc ?_ _) | (with_reducible refine le_set ?_ _ _) | (with_reducible refine le_drew ?_) | (with_reducible refine le_drewN ?_ _) | omega | (dsimp only; omega)))⟩
        · go_enter Tryz.func60, Tryz.ntmps60
          go_wp2_with fail
          have hs6 := Sl.new (w.alloc (.cells #[.int .i64 6, .slice A n c, .string l, .string cs, .int .i64 p] 60)) 2 [.int .i64 6] 1 1 rfl
          simp only [World.size_alloc] at hs6
          refine (equalInt_c _ _ _ _ _ _ gs [6] _ (sl.next (by (repeat (first | (with_reducible assumption) | (with_reducible exact Below.refl _ _) | exact Nat.le_refl _ | exact Below.size (by with_reducible assumption) | (with_reducible refine Below.drew ?_) | (with_reducible refine below_drewN ?_ _) | (with_reducible refine Below.alloc ?_ ?_ _) | (with_reducible refine Below.setCell ?_ ?_ _) | (with_reducible refine le_alloc ?_ _) | (with_reducible refine le_set ?_ _ _) | (with_reducible refine le_drew ?_) | (with_reducible refine le_drewN ?_ _) | omega | (dsimp only; omega))))) (by simpa [intC] using hs6) (by unfold maxLen; omega) (by simp [maxLen])).mono ?_
          rintro e w1 ⟨rfl, hb1⟩
          go_wp2_with fail
          go_ret
          exact ⟨rfl, Below.trans (by (repeat (first | (with_reducible assumption) | (with_reducible exact Below.refl _ _) | exact Nat.le_refl _ | exact Below.size (by with_reducible assumption) | (with_reducible refine Below.drew ?_) | (with_reducible refine below_drewN ?_ _) | (with_reducible refine Below.alloc ?_ ?_ _) | (with_reducible refine Below.setCell ?_ ?_ _) | (with_reducible refine le_alloc ?_ _) | (with_reducible refine le_set ?_ _ _) | (with_reducible refine le_drew ?_) | (with_reducible refine le_drewN ?_ _) | omega | (dsimp only; omega)))) (hb1.mono (by simp only [World.size_alloc]; omega))⟩
      · have hL : (l.toList == [76]) = false := by
          have : l.toList = [] := by simpa using hE
          rw [this]; rfl
        have hf : fitsB ⟨6, gs, l, cs, p⟩ = (decide (gs.length ≤ 1) && groupB gs) := by
          simp only [fitsB, isE, isL]; simp [hE, hL]
        by_cases hn1 : n = 1
        · subst hn1
          obtain ⟨g0, hgx⟩ : ∃ x, gs = [x] := List.length_eq_one_iff.1 Hl.out
          obtain ⟨b2, off2, x', rfl, hbb, hx, d1⟩ := sl.int 0 (by omega)
          have hxx : x' = g0 := by rw [hgx] at hx; simpa using hx.symm
          subst hxx
          have hf2 : fitsB ⟨6, gs, l, cs, p⟩ = inB x' 2 9 := by rw [hf, hgx, groupB_one]; rfl
          rw [Nat.add_zero] at d1
          rw [hf2]
          clear hx hgx hf hf2
          have Hg := Lib.hid hg; clear hg
          go_enter Tryz.func60, Tryz.ntmps60
          go_wp2_with (go_at_call 29; refine (within_c _ _ _ _).mono ?_; rintro e w1 ⟨rfl, rfl⟩)
          go_ret
          exact ⟨rfl, by (repeat (first | (with_reducible assumption) | (with_reducible exact Below.refl _ _) | exact Nat.le_refl _ | exact Below.size (by with_reducible assumption) | (with_reducible refine Below.drew ?_) | (with_reducible refine below_drewN ?_ _) | (with_reducible refine Below.alloc ?_ ?_ _) | (with_reducible refine Below.setCell ?_ ?_ _) | (with_reducible refine le_alloc ?_ _) | (with_reducible refine le_set ?_ _ _) | (with_reducible refine le_drew ?_) | (with_reducible refine le_drewN ?_ _) | omega | (dsimp only; omega)))⟩
        · have hf2 : fitsB ⟨6, gs, l, cs, p⟩ = ((n : Int) == 0) := by
            rw [hf, Hl.out, ← hg]
            by_cases h0 : gs = []
            · have hl := Hl.out
              rw [h0] at hl ⊢
              simp at hl
              subst hl
              rw [groupB_nil]; simp
            · have : gs.length ≠ 0 := fun e => h0 (List.eq_nil_of_length_eq_zero e)
              rw [Hl.out] at this
              rw [decide_eq_false (by omega : ¬ n ≤ 1), decide_eq_false h0]; rfl
          have hk1 : ((n : Int) == 1) = false := by simp; omega
          rw [hf2]
          clear hf hf2
          have Hg := Lib.hid hg; clear hg
          cases hz : ((n : Int) == 0)
          all_goals
            go_enter Tryz.func60, Tryz.ntmps60
            go_wp2
            go_ret
            exact ⟨rfl, by (repeat (first | (with_reducible assumption) | (with_reducible exact Below.refl _ _) | exact Nat.le_refl _ | exact Below.size (by with_reducible assumption) | (with_reducible refine Below.drew ?_) | (with_reducible refine below_drewN ?_ _) | (with_reducible refine Below.alloc ?_ ?_ _) | (with_reducible refine Below.setCell ?_ ?_ _) | (with_reducible refine le_alloc ?_ _) | (with_reducible refine le_set ?_ _ _) | (with_reducible refine le_drew ?_) | (with_reducible refine le_drewN ?_ _) | omega | (dsimp only; omega)))⟩
    · cases hE : l.toList.isEmpty
      · have hf : fitsB ⟨7, gs, l, cs, p⟩ = ((l.toList == [76]) && decide (gs = [6])) := by
          simp only [fitsB, isE, isL]; simp [hE]
          rw [Bool.eq_iff_iff]; simp
        rw [hf]
        have Hf := Lib.hid hf; clear hf
        have Hg := Lib.hid hg; clear hg
        cases hL : (l.toList == [76])
        · go_enter Tryz.func60, Tryz.ntmps60
          go_wp2
          go_ret
          exact ⟨rfl, by (repeat (first | (with_reducible assumption) | (with_reducible exact Below.refl _ _) | exact Nat.le_refl _ | exact Below.size (by with_reducible assumption) | (with_reducible refine Below.drew ?_) | (with_reducible refine below_drewN ?_ _) | (with_reducible refine Below.alloc ?_ ?_ _) | (with_reducible refine Below.setCell ?_ ?_ _) | (with_reducible refine le_alloc ?_ _) | (with_reducible refine le_set ?_ _ _) | (with_reducible refine le_drew ?_) | (with_reducible refine le_drewN ?_ _) | omega | (dsimp only; omega)))⟩
        · go_enter Tryz.func60, Tryz.ntmps60
          go_wp2_with fail
          have hs6 := Sl.new (w.alloc (.cells #[.int .i64 7, .slice A n c, .string l, .string cs, .int .i64 p] 60)) 2 [.int .i64 6] 1 1 rfl
          simp only [World.size_alloc] at hs6
          refine (equalInt_c _ _ _ _ _ _ gs [6] _ (sl.next (by (repeat (first | (with_reducible assumption) | (with_reducible exact Below.refl _ _) | exact Nat.le_refl _ | exact Below.size (by with_reducible assumption) | (with_reducible refine Below.drew ?_) | (with_reducible refine below_drewN ?_ _) | (with_reducible refine Below.alloc ?_ ?_ _) | (with_reducible refine Below.setCell ?_ ?_ _) | (with_reducible refine le_alloc ?_ _) | (with_reducible refine le_set ?_ _ _) | (with_reducible refine le_drew ?_) | (with_reducible refine le_drewN ?_ _) | omega | (dsimp only; omega))))) (by simpa [intC] using hs6) (by unfold maxLen; omega) (by simp [maxLen])).mono ?_
          rintro e w1 ⟨rfl, hb1⟩
          go_wp2_with fail
          go_ret
          exact ⟨rfl, Below.trans (by (repeat (first | (with_reducible assumption) | (with_reducible exact Below.refl _ _) | exact Nat.le_refl _ | exact Below.size (by with_reducible assumption) | (with_reducible refine Below.drew ?_) | (with_reducible refine below_drewN ?_ _) | (with_reducible refine Below.alloc ?_ ?_ _) | (with_reducible refine Below.setCell ?_ ?_ _) | (with_reducible refine le_alloc ?_ _) | (with_reducible refine le_set ?_ _ _) | (with_reducible refine le_drew ?_) | (with_reducible refine le_drewN ?_ _) | omega | (dsimp only; omega)))) (hb1.mono (by simp only [World.size_alloc]; omega))⟩
      · have hL : (l.toList == [76]) = false := by
          have : l.toList = [] := by simpa using hE
          rw [this]; rfl
        have hf : fitsB ⟨7, gs, l, cs, p⟩ = (decide (gs.length ≤ 1) && groupB gs) := by
          simp only [fitsB, isE, isL]; simp [hE, hL]
        by_cases hn1 : n = 1
        · subst hn1
          obtain ⟨g0, hgx⟩ : ∃ x, gs = [x] := List.length_eq_one_iff.1 Hl.out
          obtain ⟨b2, off2, x', rfl, hbb, hx, d1⟩ := sl.int 0 (by omega)
          have hxx : x' = g0 := by rw [hgx] at hx; simpa using hx.symm
          subst hxx
          have hf2 : fitsB ⟨7, gs, l, cs, p⟩ = inB x' 2 9 := by rw [hf, hgx, groupB_one]; rfl
          rw [Nat.add_zero] at d1
          rw [hf2]
          clear hx hgx hf hf2
          have Hg := Lib.hid hg; clear hg
          go_enter Tryz.func60, Tryz.ntmps60
          go_wp2_with (go_at_call 29; refine (within_c _ _ _ _).mono ?_; rintro e w1 ⟨rfl, rfl⟩)
          go_ret
          exact ⟨rfl, by (repeat (first | (with_reducible assumption) | (with_reducible exact Below.refl _ _) | exact Nat.le_refl _ | exact Below.size (by with_reducible assumption) | (with_reducible refine Below.drew ?_) | (with_reducible refine below_drewN ?_ _) | (with_reducible refine Below.alloc ?_ ?_ _) | (with_reducible refine Below.setCell ?_ ?_ _) | (with_reducible refine le_alloc ?_ _) | (with_reducible refine le_set ?_ _ _) | (with_reducible refine le_drew ?_) | (with_reducible refine le_drewN ?_ _) | omega | (dsimp only; omega)))⟩
        · have hf2 : fitsB ⟨7, gs, l, cs, p⟩ = ((n : Int) == 0) := by
            rw [hf, Hl.out, ← hg]
            by_cases h0 : gs = []
            · have hl := Hl.out
              rw [h0] at hl ⊢
              simp at hl
              subst hl
              rw [groupB_nil]; simp
            · have : gs.length ≠ 0 := fun e => h0 (List.eq_nil_of_length_eq_zero e)
              rw [Hl.out] at this
              rw [decide_eq_false (by omega : ¬ n ≤ 1), decide_eq_false h0]; rfl
          have hk1 : ((n : Int) == 1) = false := by simp; omega
          rw [hf2]
          clear hf hf2
          have Hg := Lib.hid hg; clear hg
          cases hz : ((n : Int) == 0)
          all_goals
            go_enter Tryz.func60, Tryz.ntmps60
            go_wp2
            go_ret
            exact ⟨rfl, by (repeat (first | (with_reducible assumption) | (with_reducible exact Below.refl _ _) | exact Nat.le_refl _ | exact Below.size (by with_reducible assumption) | (with_reducible refine Below.drew ?_) | (with_reducible refine below_drewN ?_ _) | (with_reducible refine Below.alloc ?_ ?_ _) | (with_reducible refine Below.setCell ?_ ?_ _) | (with_reducible refine le_alloc ?_ _) | (with_reducible refine le_set ?_ _ _) | (with_reducible refine le_drew ?_) | (with_reducible refine le_drewN ?_ _) | omega | (dsimp only; omega)))⟩
    · have hf : fitsB ⟨8, gs, l, cs, p⟩ = (((n : Int) == 0) && letterB l) := by rw [← hg]; simp [fitsB]
      have hsg := signsV_E l
      rw [hf]
      have Hf := Lib.hid hf; clear hf
      have Hg := Lib.hid hg; clear hg
      cases hE : letterB l
      all_goals
        rw [hE] at hsg
        simp only [Bool.not_true, Bool.not_false] at hsg
        cases hz : ((n : Int) == 0)
      all_goals
        go_enter Tryz.func60, Tryz.ntmps60
        go_wp2_with (go_at_call 86; refine (signsOf_c _ _ (by unfold maxLen; omega)).mono ?_; rintro e w1 ⟨rfl, rfl⟩)
        go_ret
        exact ⟨rfl, by (repeat (first | (with_reducible assumption) | (with_reducible exact Below.refl _ _) | exact Nat.le_refl _ | exact Below.size (by with_reducible assumption) | (with_reducible refine Below.drew ?_) | (with_reducible refine below_drewN ?_ _) | (with_reducible refine Below.alloc ?_ ?_ _) | (with_reducible refine Below.setCell ?_ ?_ _) | (with_reducible refine le_alloc ?_ _) | (with_reducible refine le_set ?_ _ _) | (with_reducible refine le_drew ?_) | (with_reducible refine le_drewN ?_ _) | omega | (dsimp only; omega)))⟩
  · have hf : fitsB ⟨k, gs, l, cs, p⟩ = false := by
      rw [fitsB]
      simp only
      rw [if_neg (by omega), if_neg (by omega), if_neg (by omega), if_neg (by omega)]
    rw [hf]
    have k1 : (k == 1) = false := by simp; omega
    have k2 : (k == 2) = false := by simp; omega
    have k3 : (k == 3) = false := by simp; omega
    have k4 : (k == 4) = false := by simp; omega
    have k5 : (k == 5) = false := by simp; omega
    have k6 : (k == 6) = false := by simp; omega
    have k7 : (k == 7) = false := by simp; omega
    have k8 : (k == 8) = false := by simp; omega
    clear hf hk
    have Hg := Lib.hid hg; clear hg
    go_enter Tryz.func60, Tryz.ntmps60
    go_wp2
    go_ret
    exact ⟨rfl, by (repeat (first | (with_reducible assumption) | (with_reducible exact Below.refl _ _) | exact Nat.le_refl _ | exact Below.size (by with_reducible assumption) | (with_reducible refine Below.drew ?_) | (with_reducible refine below_drewN ?_ _) | (with_reducible refine Below.alloc ?_ ?_ _) | (with_reducible refine Below.setCell ?_ ?_ _) | (with_reducible refine le_alloc ?_ _) | (with_reducible refine le_set ?_ _ _) | (with_reducible refine le_drew ?_) | (with_reducible refine le_drewN ?_ _) | omega | (dsimp only; omega)))⟩
end Go.Proofs.YtgibbhipjpbdfaaGreat
