
/- Characters: the reference's functions on a pointer. -/
import Derived.Test.YtgibbhipjpbdfaaChSpec1
namespace Go.Proofs.Ytgibbhipjpbdfaa
open Go.RowKit
/-- A Character lies at block b from cell off on; its group reads as gs. -/
structure ChP (w : World) (b off : Nat) (A : Option Addr) (n c : Nat) (x : Ch) : Prop where
  c0 : w.cell? ⟨b, off, none⟩ = some (.int .i64 x.k)
  c1 : w.cell? ⟨b, off + 1, none⟩ = some (.slice A n c)
  c2 : w.cell? ⟨b, off + 2, none⟩ = some (.string x.l)
  c3 : w.cell? ⟨b, off + 3, none⟩ = some (.string x.cs)
  c4 : w.cell? ⟨b, off + 4, none⟩ = some (.int .i64 x.p)
  hb : b < w.heap.size
  sl : Sl w w.heap.size 1 A n (x.gs.flatMap intC)
  hn : n ≤ 1048576
  hl : x.l.size ≤ 1048576
  hs : x.cs.size ≤ 1048576
theorem ChP.next {w w' : World} {b off : Nat} {A : Option Addr} {n c : Nat} {x : Ch} (h : ChP w b off A n c x) (hb : Below w.heap.size w w') : ChP w' b off A n c x :=
  ⟨(keepC hb b h.hb _).trans h.c0, (keepC hb b h.hb _).trans h.c1, (keepC hb b h.hb _).trans h.c2, (keepC hb b h.hb _).trans h.c3, (keepC hb b h.hb _).trans h.c4, Nat.lt_of_lt_of_le h.hb hb.size, h.sl.next hb, h.hn, h.hl, h.hs⟩
theorem ChP.len {w : World} {b off : Nat} {A : Option Addr} {n c : Nat} {x : Ch} (h : ChP w b off A n c x) : x.gs.length = n := h.sl.len intC 1 intC_len (by omega)
set_option maxRecDepth 100000 in
set_option maxHeartbeats 400000 in
theorem l05Steady_c (b off : Nat) (A : Option Addr) (n c : Nat) (x : Ch) (w : World) (h : ChP w b off A n c x) :
    Calls Try.prog 28 #[.pointer (some ⟨b, off, none⟩)] w fun e w' => e = .returned (.bool (steadyB x)) ∧ w = w' := by
  have hl := h.len
  obtain ⟨c0, c1, c2, c3, c4, hb, sl, hn, hlz, hs⟩ := h
  have Hl := Lib.hid hl; clear hl
  go_enter Try.func28, Try.ntmps28
  go_wp2
  all_goals
    go_ret
    have hl := Hl.out
    have hg : x.gs = [] ↔ n = 0 := by rw [← hl]; exact List.length_eq_zero_iff.symm
    refine ⟨ret_eq (bool_eq ?_), rfl⟩
    simp only [steadyB, hg]
    simp_all
    try (rw [Bool.eq_iff_iff]; simp)
set_option maxRecDepth 100000 in
set_option maxHeartbeats 1000000 in
theorem l05Shape_c (b off : Nat) (A : Option Addr) (n c : Nat) (x : Ch) (w : World) (h : ChP w b off A n c x) :
    Calls Try.prog 83 #[.pointer (some ⟨b, off, none⟩)] w fun e w' => e = .returned (.bool (shapeB x)) ∧ Below w.heap.size w w' := by
  have hl := h.len
  have Hl := Lib.hid hl; clear hl
  obtain ⟨k, gs, l, cs, p⟩ := x
  obtain ⟨c0, c1, c2, c3, c4, hb, sl, hn, hlz, hs⟩ := h
  simp only at c0 c1 c2 c3 c4 sl hlz hs
  by_cases hk : 1 ≤ k ∧ k ≤ 8
  · cases hcs : colorsB cs
    · have hik : inB k 1 8 = true := inB_iff.2 hk
      go_enter Try.func83, Try.ntmps83
      go_wp2_with (first | (go_at_call 105; refine (l05Kind_c _ _).mono ?_; rintro e w1 ⟨rfl, rfl⟩) | (go_at_call 106; refine (l05Colors_c cs _ (by unfold maxLen; omega)).mono ?_; rintro e w1 ⟨rfl, hb1⟩))
      go_ret
      exact ⟨ret_eq (bool_eq (by rw [shapeB, hcs]; rfl)), hb1⟩
    · have hik : inB k 1 8 = true := inB_iff.2 hk
      have hsh : shapeB ⟨k, gs, l, cs, p⟩ = fitsB ⟨k, gs, l, cs, p⟩ := by rw [shapeB, hcs]; rfl
      rw [hsh]
      have hg : decide (gs = []) = ((n : Int) == 0) := by
        have hl := Hl.out
        rw [Bool.eq_iff_iff]; simp [← hl, List.length_eq_zero_iff]
      clear hsh
      rcases (show k = 1 ∨ k = 2 ∨ k = 3 ∨ k = 4 ∨ k = 5 ∨ k = 6 ∨ k = 7 ∨ k = 8 by omega) with rfl | rfl | rfl | rfl | rfl | rfl | rfl | rfl
      · have hf : fitsB ⟨1, gs, l, cs, p⟩ = (((n : Int) == 0) && l.toList.isEmpty) := by rw [← hg]; simp [fitsB, isE]
        have Hf := Lib.hid hf; clear hf
        have Hg := Lib.hid hg; clear hg
        go_enter Try.func83, Try.ntmps83
        go_wp2_with (first | (go_at_call 105; refine (l05Kind_c _ _).mono ?_; rintro e w1 ⟨rfl, rfl⟩) | (go_at_call 106; refine (l05Colors_c cs _ (by unfold maxLen; omega)).mono ?_; rintro e w1 ⟨rfl, hb1⟩; have q1 := keepC hb1 b hb; have sl1 := sl.next hb1) | (go_at_call 102; refine (l05Group_c A n c gs _ sl1 hn).mono ?_; rintro e w2 ⟨rfl, rfl⟩))
        all_goals
          go_ret
          refine ⟨ret_eq (bool_eq ?_), hb1⟩
          rw [Hf.out]
          simp_all
      · have hf : fitsB ⟨2, gs, l, cs, p⟩ = (l.toList.isEmpty && groupB gs) := by simp [fitsB, isE]
        have Hf := Lib.hid hf; clear hf
        have Hg := Lib.hid hg; clear hg
        go_enter Try.func83, Try.ntmps83
        go_wp2_with (first | (go_at_call 105; refine (l05Kind_c _ _).mono ?_; rintro e w1 ⟨rfl, rfl⟩) | (go_at_call 106; refine (l05Colors_c cs _ (by unfold maxLen; omega)).mono ?_; rintro e w1 ⟨rfl, hb1⟩; have q1 := keepC hb1 b hb; have sl1 := sl.next hb1) | (go_at_call 102; refine (l05Group_c A n c gs _ sl1 hn).mono ?_; rintro e w2 ⟨rfl, rfl⟩))
        all_goals
          go_ret
          refine ⟨ret_eq (bool_eq ?_), hb1⟩
          rw [Hf.out]
          simp_all
      · have hf : fitsB ⟨3, gs, l, cs, p⟩ = (((n : Int) == 0) && l.toList.isEmpty) := by rw [← hg]; simp [fitsB, isE]
        have Hf := Lib.hid hf; clear hf
        have Hg := Lib.hid hg; clear hg
        go_enter Try.func83, Try.ntmps83
        go_wp2_with (first | (go_at_call 105; refine (l05Kind_c _ _).mono ?_; rintro e w1 ⟨rfl, rfl⟩) | (go_at_call 106; refine (l05Colors_c cs _ (by unfold maxLen; omega)).mono ?_; rintro e w1 ⟨rfl, hb1⟩; have q1 := keepC hb1 b hb; have sl1 := sl.next hb1) | (go_at_call 102; refine (l05Group_c A n c gs _ sl1 hn).mono ?_; rintro e w2 ⟨rfl, rfl⟩))
        all_goals
          go_ret
          refine ⟨ret_eq (bool_eq ?_), hb1⟩
          rw [Hf.out]
          simp_all
      · have hf : fitsB ⟨4, gs, l, cs, p⟩ = (l.toList.isEmpty && groupB gs) := by simp [fitsB, isE]
        have Hf := Lib.hid hf; clear hf
        have Hg := Lib.hid hg; clear hg
        go_enter Try.func83, Try.ntmps83
        go_wp2_with (first | (go_at_call 105; refine (l05Kind_c _ _).mono ?_; rintro e w1 ⟨rfl, rfl⟩) | (go_at_call 106; refine (l05Colors_c cs _ (by unfold maxLen; omega)).mono ?_; rintro e w1 ⟨rfl, hb1⟩; have q1 := keepC hb1 b hb; have sl1 := sl.next hb1) | (go_at_call 102; refine (l05Group_c A n c gs _ sl1 hn).mono ?_; rintro e w2 ⟨rfl, rfl⟩))
        all_goals
          go_ret
          refine ⟨ret_eq (bool_eq ?_), hb1⟩
          rw [Hf.out]
          simp_all
      · have hf : fitsB ⟨5, gs, l, cs, p⟩ = (l.toList.isEmpty && groupB gs) := by simp [fitsB, isE]
        have Hf := Lib.hid hf; clear hf
        have Hg := Lib.hid hg; clear hg
        go_enter Try.func83, Try.ntmps83
        go_wp2_with (first | (go_at_call 105; refine (l05Kind_c _ _).mono ?_; rintro e w1 ⟨rfl, rfl⟩) | (go_at_call 106; refine (l05Colors_c cs _ (by unfold maxLen; omega)).mono ?_; rintro e w1 ⟨rfl, hb1⟩; have q1 := keepC hb1 b hb; have sl1 := sl.next hb1) | (go_at_call 102; refine (l05Group_c A n c gs _ sl1 hn).mono ?_; rintro e w2 ⟨rfl, rfl⟩))
        all_goals
          go_ret
          refine ⟨ret_eq (bool_eq ?_), hb1⟩
          rw [Hf.out]
          simp_all
      · by_cases hn1 : n = 1
        · subst hn1
          obtain ⟨g0, hgx⟩ : ∃ x, gs = [x] := List.length_eq_one_iff.1 Hl.out
          obtain ⟨b2, off2, x', rfl, hbb, hx, d1⟩ := sl.int 0 (by omega)
          have hxx : x' = g0 := by rw [hgx] at hx; simpa using hx.symm
          subst hxx
          have hf : fitsB ⟨6, gs, l, cs, p⟩ = (if (l.toList == [76]) = true then (x' == 6) else l.toList.isEmpty && groupB gs) := by
            simp only [fitsB, isE, isL]
            have e6 : (x' == 6) = decide (x' = 6) := by rw [Bool.eq_iff_iff]; simp
            rw [e6]
            simp [hgx]
          rw [Nat.add_zero] at d1
          clear hx hgx
          have Hf := Lib.hid hf; clear hf
          have Hg := Lib.hid hg; clear hg
          go_enter Try.func83, Try.ntmps83
          go_wp2_with (first | (go_at_call 105; refine (l05Kind_c _ _).mono ?_; rintro e w1 ⟨rfl, rfl⟩) | (go_at_call 106; refine (l05Colors_c cs _ (by unfold maxLen; omega)).mono ?_; rintro e w1 ⟨rfl, hb1⟩; have q1 := keepC hb1 b hb; have q2 := keepC hb1 b2 hbb; have sl1 := sl.next hb1) | (go_at_call 102; refine (l05Group_c _ 1 c gs _ sl1 hn).mono ?_; rintro e w2 ⟨rfl, rfl⟩))
          all_goals
            go_ret
            refine ⟨ret_eq (bool_eq ?_), hb1⟩
            rw [Hf.out]
            simp_all
        · have hf : fitsB ⟨6, gs, l, cs, p⟩ = (if (l.toList == [76]) = true then false else l.toList.isEmpty && (decide (n ≤ 1) && groupB gs)) := by
            have h6 : ¬ gs = [6] := fun e => hn1 (by rw [← Hl.out, e]; rfl)
            simp only [fitsB, isE, isL, Hl.out]
            simp [h6]
          have hk1 : ((n : Int) == 1) = false := by simp; omega
          have Hf := Lib.hid hf; clear hf
          have Hg := Lib.hid hg; clear hg
          go_enter Try.func83, Try.ntmps83
          go_wp2_with (first | (go_at_call 105; refine (l05Kind_c _ _).mono ?_; rintro e w1 ⟨rfl, rfl⟩) | (go_at_call 106; refine (l05Colors_c cs _ (by unfold maxLen; omega)).mono ?_; rintro e w1 ⟨rfl, hb1⟩; have q1 := keepC hb1 b hb; have sl1 := sl.next hb1) | (go_at_call 102; refine (l05Group_c A n c gs _ sl1 hn).mono ?_; rintro e w2 ⟨rfl, rfl⟩))
          all_goals
            go_ret
            refine ⟨ret_eq (bool_eq ?_), hb1⟩
            rw [Hf.out]
            simp_all
            try omega
      · by_cases hn1 : n = 1
        · subst hn1
          obtain ⟨g0, hgx⟩ : ∃ x, gs = [x] := List.length_eq_one_iff.1 Hl.out
          obtain ⟨b2, off2, x', rfl, hbb, hx, d1⟩ := sl.int 0 (by omega)
          have hxx : x' = g0 := by rw [hgx] at hx; simpa using hx.symm
          subst hxx
          have hf : fitsB ⟨7, gs, l, cs, p⟩ = (if (l.toList == [76]) = true then (x' == 6) else l.toList.isEmpty && groupB gs) := by
            simp only [fitsB, isE, isL]
            have e6 : (x' == 6) = decide (x' = 6) := by rw [Bool.eq_iff_iff]; simp
            rw [e6]
            simp [hgx]
          rw [Nat.add_zero] at d1
          clear hx hgx
          have Hf := Lib.hid hf; clear hf
          have Hg := Lib.hid hg; clear hg
          go_enter Try.func83, Try.ntmps83
          go_wp2_with (first | (go_at_call 105; refine (l05Kind_c _ _).mono ?_; rintro e w1 ⟨rfl, rfl⟩) | (go_at_call 106; refine (l05Colors_c cs _ (by unfold maxLen; omega)).mono ?_; rintro e w1 ⟨rfl, hb1⟩; have q1 := keepC hb1 b hb; have q2 := keepC hb1 b2 hbb; have sl1 := sl.next hb1) | (go_at_call 102; refine (l05Group_c _ 1 c gs _ sl1 hn).mono ?_; rintro e w2 ⟨rfl, rfl⟩))
          all_goals
            go_ret
            refine ⟨ret_eq (bool_eq ?_), hb1⟩
            rw [Hf.out]
            simp_all
        · have hf : fitsB ⟨7, gs, l, cs, p⟩ = (if (l.toList == [76]) = true then false else l.toList.isEmpty && (decide (n ≤ 1) && groupB gs)) := by
            have h6 : ¬ gs = [6] := fun e => hn1 (by rw [← Hl.out, e]; rfl)
            simp only [fitsB, isE, isL, Hl.out]
            simp [h6]
          have hk1 : ((n : Int) == 1) = false := by simp; omega
          have Hf := Lib.hid hf; clear hf
          have Hg := Lib.hid hg; clear hg
          go_enter Try.func83, Try.ntmps83
          go_wp2_with (first | (go_at_call 105; refine (l05Kind_c _ _).mono ?_; rintro e w1 ⟨rfl, rfl⟩) | (go_at_call 106; refine (l05Colors_c cs _ (by unfold maxLen; omega)).mono ?_; rintro e w1 ⟨rfl, hb1⟩; have q1 := keepC hb1 b hb; have sl1 := sl.next hb1) | (go_at_call 102; refine (l05Group_c A n c gs _ sl1 hn).mono ?_; rintro e w2 ⟨rfl, rfl⟩))
          all_goals
            go_ret
            refine ⟨ret_eq (bool_eq ?_), hb1⟩
            rw [Hf.out]
            simp_all
            try omega
      · have hf : fitsB ⟨8, gs, l, cs, p⟩ = (((n : Int) == 0) && letterB l) := by rw [← hg]; simp [fitsB]
        have Hf := Lib.hid hf; clear hf
        have Hg := Lib.hid hg; clear hg
        by_cases hl1 : l.size = 1
        · have hl0 : 0 < l.size := by omega
          have hb0 := bt_eq l 0 hl0
          have hle : letterB l = (decide (65 ≤ (l[0].toNat : Int)) && decide ((l[0].toNat : Int) ≤ 90)) := by simp [letterB, hl1, hb0]
          have hz : (0 : Int) < (l.size : Int) := by omega
          have hz1 : ((l.size : Int) == 1) = true := by simp [hl1]
          have Hb0 := Lib.hid hb0; clear hb0
          have Hle := Lib.hid hle; clear hle
          have Hl1 := Lib.hid hl1; clear hl1
          go_enter Try.func83, Try.ntmps83
          go_wp2_with (first | (go_at_call 105; refine (l05Kind_c _ _).mono ?_; rintro e w1 ⟨rfl, rfl⟩) | (go_at_call 106; refine (l05Colors_c cs _ (by unfold maxLen; omega)).mono ?_; rintro e w1 ⟨rfl, hb1⟩; have q1 := keepC hb1 b hb; have sl1 := sl.next hb1) | (go_at_call 102; refine (l05Group_c A n c gs _ sl1 hn).mono ?_; rintro e w2 ⟨rfl, rfl⟩))
          all_goals
            go_ret
            refine ⟨ret_eq (bool_eq ?_), hb1⟩
            rw [Hf.out, Hle.out]
            simp_all
            try omega
        · have hle : letterB l = false := by simp [letterB, hl1]
          have hz1 : ((l.size : Int) == 1) = false := by simp; omega
          have Hle := Lib.hid hle; clear hle
          go_enter Try.func83, Try.ntmps83
          go_wp2_with (first | (go_at_call 105; refine (l05Kind_c _ _).mono ?_; rintro e w1 ⟨rfl, rfl⟩) | (go_at_call 106; refine (l05Colors_c cs _ (by unfold maxLen; omega)).mono ?_; rintro e w1 ⟨rfl, hb1⟩; have q1 := keepC hb1 b hb; have sl1 := sl.next hb1) | (go_at_call 102; refine (l05Group_c A n c gs _ sl1 hn).mono ?_; rintro e w2 ⟨rfl, rfl⟩))
          all_goals
            go_ret
            refine ⟨ret_eq (bool_eq ?_), hb1⟩
            rw [Hf.out, Hle.out]
            simp_all
            try omega
  · have hik : inB k 1 8 = false := inB_no.2 hk
    go_enter Try.func83, Try.ntmps83
    go_wp2_with (first | (go_at_call 105; refine (l05Kind_c _ _).mono ?_; rintro e w1 ⟨rfl, rfl⟩))
    go_ret
    refine ⟨ret_eq (bool_eq ?_), Below.refl _ _⟩
    rw [shapeB, fitsB]
    simp only
    rw [if_neg (by omega), if_neg (by omega), if_neg (by omega), if_neg (by omega), Bool.and_false]
end Go.Proofs.Ytgibbhipjpbdfaa
