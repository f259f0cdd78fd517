
/- Aids: the program: lit, unlit, ValidAid. -/
import Derived.Test.YtpfnnjcochhklaaGreatDoorAidI
namespace Go.Proofs.YtpfnnjcochhklaaGreatDoor
open Go.RowKit
set_option maxRecDepth 100000 in
set_option maxHeartbeats 2000000 in
theorem lit_c (z : AidG) (w : World) (h : AidOk w z) :
    Calls Tryz.prog 110 #[z.val] w fun e w' => e = .returned (.bool (litB z.a)) ∧ Below w.heap.size w w' := by
  have hp := aidp_box w z 56
  have hb0 : Below w.heap.size w (w.alloc (aidO z 56)) := by (repeat (first | (with_reducible assumption) | (with_reducible exact Below.refl _ _) | exact Nat.le_refl _ | exact Below.size (by with_reducible assumption) | (with_reducible refine Below.drew ?_) | (with_reducible refine below_drewN ?_ _) | (with_reducible refine Below.alloc ?_ ?_ _) | (with_reducible refine Below.setCell ?_ ?_ _) | (with_reducible refine le_alloc ?_ _) | (with_reducible refine le_set ?_ _ _) | (with_reducible refine le_drew ?_) | (with_reducible refine le_drewN ?_ _) | omega | (dsimp only; omega)))
  have hh := h.next hb0
  obtain ⟨w0, hw⟩ : ∃ w0, w.alloc (aidO z 56) = w0 := ⟨_, rfl⟩
  have hz : w.heap.size < w0.heap.size := by rw [← hw]; simp
  rw [hw] at hp hb0 hh
  obtain ⟨c0, c1, c2, c3, c4, c5, c6, c7, c8, c9, c10, c11, c12, c13, c14, c15, _⟩ := hp
  simp only [Nat.zero_add] at c1 c2 c3 c4 c5 c6 c7 c8 c9 c10 c11 c12 c13 c14 c15
  obtain ⟨sl, ss, bd⟩ := hh
  have b1 := bd.nm
  have b5 := bd.gs
  have b6 := bd.l
  have b7 := bd.cc
  have b8 := bd.ss
  have HB := Lib.hid bd
  clear bd
  have hv : litB z.a = (validB z.a.ch && (inB z.a.it 1 100000000 && (secsB z.a.secs && (if z.a.secs = [] then decide (z.a.ch.cs.size = 1) else colsOf z.a.secs == z.a.ch.cs.toList)))) := rfl
  rw [hv]
  have Hv := Lib.hid hv; clear hv
  cases h1 : validB z.a.ch
  · go_enter Tryz.func110, Tryz.ntmps110
    go_wp2_with fail
    try rw [hw]
    clear hw
    refine (implValid_c z.A z.n z.c z.a.ch _ sl b5 b6 b7).mono ?_
    rintro e w1 ⟨rfl, hb1⟩
    have q1 := keepC hb1 w.heap.size hz
    have z1 := Nat.lt_of_lt_of_le hz hb1.size
    have ss1 := ss.next hb1
    replace hb1 := hb0.trans (hb1.mono hb0.size)
    go_wp2_with fail
    all_goals go_ret
    all_goals exact ⟨rfl, hb1⟩
  cases h2 : inB z.a.it 1 100000000
  · go_enter Tryz.func110, Tryz.ntmps110
    go_wp2_with fail
    try rw [hw]
    clear hw
    refine (implValid_c z.A z.n z.c z.a.ch _ sl b5 b6 b7).mono ?_
    rintro e w1 ⟨rfl, hb1⟩
    have q1 := keepC hb1 w.heap.size hz
    have z1 := Nat.lt_of_lt_of_le hz hb1.size
    have ss1 := ss.next hb1
    replace hb1 := hb0.trans (hb1.mono hb0.size)
    go_wp2_with fail
    refine (isIntensity_c _ _).mono ?_
    rintro e w9 ⟨rfl, rfl⟩
    go_wp2_with fail
    all_goals go_ret
    all_goals exact ⟨rfl, hb1⟩
  cases h3 : secsB z.a.secs
  · go_enter Tryz.func110, Tryz.ntmps110
    go_wp2_with fail
    try rw [hw]
    clear hw
    refine (implValid_c z.A z.n z.c z.a.ch _ sl b5 b6 b7).mono ?_
    rintro e w1 ⟨rfl, hb1⟩
    have q1 := keepC hb1 w.heap.size hz
    have z1 := Nat.lt_of_lt_of_le hz hb1.size
    have ss1 := ss.next hb1
    replace hb1 := hb0.trans (hb1.mono hb0.size)
    go_wp2_with fail
    refine (isIntensity_c _ _).mono ?_
    rintro e w9 ⟨rfl, rfl⟩
    go_wp2_with fail
    refine (validSectors_c z.B z.m z.d z.a.secs _ ss1 b8 (fun s hs => by have := HB.out.sc s hs; unfold maxLen; omega)).mono ?_
    rintro e w2 ⟨rfl, hb2⟩
    have q2 := keepC hb2 w.heap.size z1
    have z2 := Nat.lt_of_lt_of_le z1 hb2.size
    have ss2 := ss1.next hb2
    replace hb2 := hb1.trans (hb2.mono hb1.size)
    go_wp2_with fail
    all_goals go_ret
    all_goals exact ⟨rfl, hb2⟩
  by_cases h4 : z.a.secs = []
  · have e4 : ((z.m : Int) == 0) = true := by simp [AidG.m, h4]
    have e5 : ((z.a.ch.cs.size : Int) == 1) = decide (z.a.ch.cs.size = 1) := by rw [Bool.eq_iff_iff]; simp; omega
    rw [if_pos h4]
    have H4 := Lib.hid h4; clear h4
    have E5 := Lib.hid e5; clear e5
    go_enter Tryz.func110, Tryz.ntmps110
    go_wp2_with fail
    try rw [hw]
    clear hw
    refine (implValid_c z.A z.n z.c z.a.ch _ sl b5 b6 b7).mono ?_
    rintro e w1 ⟨rfl, hb1⟩
    have q1 := keepC hb1 w.heap.size hz
    have z1 := Nat.lt_of_lt_of_le hz hb1.size
    have ss1 := ss.next hb1
    replace hb1 := hb0.trans (hb1.mono hb0.size)
    go_wp2_with fail
    refine (isIntensity_c _ _).mono ?_
    rintro e w9 ⟨rfl, rfl⟩
    go_wp2_with fail
    refine (validSectors_c z.B z.m z.d z.a.secs _ ss1 b8 (fun s hs => by have := HB.out.sc s hs; unfold maxLen; omega)).mono ?_
    rintro e w2 ⟨rfl, hb2⟩
    have q2 := keepC hb2 w.heap.size z1
    have z2 := Nat.lt_of_lt_of_le z1 hb2.size
    have ss2 := ss1.next hb2
    replace hb2 := hb1.trans (hb2.mono hb1.size)
    go_wp2_with fail
    go_ret
    exact ⟨ret_eq (bool_eq (by rw [← E5.out]; rfl)), hb2⟩
  · have e4 : ((z.m : Int) == 0) = false := by
      have : 0 < z.a.secs.length := List.length_pos_iff.2 h4
      simp only [AidG.m, beq_eq_false_iff_ne, ne_eq]; omega
    rw [if_neg h4]
    obtain ⟨C, hC⟩ : ∃ C, bs (colsOf z.a.secs) = C := ⟨_, rfl⟩
    have hCl : colsOf z.a.secs = C.toList := by rw [← hC, bs_toList]
    rw [hCl]
    have H4 := Lib.hid h4; clear h4
    have HCl := Lib.hid hCl; clear hCl
    have HC := Lib.hid hC; clear hC
    go_enter Tryz.func110, Tryz.ntmps110
    go_wp2_with fail
    try rw [hw]
    clear hw
    refine (implValid_c z.A z.n z.c z.a.ch _ sl b5 b6 b7).mono ?_
    rintro e w1 ⟨rfl, hb1⟩
    have q1 := keepC hb1 w.heap.size hz
    have z1 := Nat.lt_of_lt_of_le hz hb1.size
    have ss1 := ss.next hb1
    replace hb1 := hb0.trans (hb1.mono hb0.size)
    go_wp2_with fail
    refine (isIntensity_c _ _).mono ?_
    rintro e w9 ⟨rfl, rfl⟩
    go_wp2_with fail
    refine (validSectors_c z.B z.m z.d z.a.secs _ ss1 b8 (fun s hs => by have := HB.out.sc s hs; unfold maxLen; omega)).mono ?_
    rintro e w2 ⟨rfl, hb2⟩
    have q2 := keepC hb2 w.heap.size z1
    have z2 := Nat.lt_of_lt_of_le z1 hb2.size
    have ss2 := ss1.next hb2
    replace hb2 := hb1.trans (hb2.mono hb1.size)
    go_wp2_with fail
    have e1 : ∀ {w' : World}, Below w2.heap.size w2 w' → (Below w2.heap.size w2 w' ∧ (∀ x, w'.cell? ⟨w.heap.size, x, none⟩ = w2.cell? ⟨w.heap.size, x, none⟩)) := fun hbb => ⟨hbb, keepC hbb _ z2⟩
    go_region_held3 (fun w' => Below w2.heap.size w2 w' ∧ (∀ x, w'.cell? ⟨w.heap.size, x, none⟩ = w2.cell? ⟨w.heap.size, x, none⟩)) (first | exact e1 (Below.refl _ _).drew | exact e1 ((Below.refl _ _).drew.trans hb3)) (first | (go_at_call 134; refine (colorsOf_c z.B z.m z.d z.a.secs _ (ss2.next (Below.refl _ _).drew) b8).mono ?_; rw [HC.out]; rintro e w3 ⟨rfl, hb3⟩))
    go_wp2_with fail
    go_ret
    exact ⟨ret_eq (bool_eq (by simp)), hb2.trans (((Below.refl _ _).drew.trans hb3).mono hb2.size)⟩
set_option maxRecDepth 100000 in
set_option maxHeartbeats 2000000 in
theorem unlit_c (z : AidG) (w : World) (h : AidOk w z) :
    Calls Tryz.prog 111 #[z.val] w fun e w' => e = .returned (.bool (unlitB z.a)) ∧ Below w.heap.size w w' := by
  have hp := aidp_box w z 56
  have hb0 : Below w.heap.size w (w.alloc (aidO z 56)) := by (repeat (first | (with_reducible assumption) | (with_reducible exact Below.refl _ _) | exact Nat.le_refl _ | exact Below.size (by with_reducible assumption) | (with_reducible refine Below.drew ?_) | (with_reducible refine below_drewN ?_ _) | (with_reducible refine Below.alloc ?_ ?_ _) | (with_reducible refine Below.setCell ?_ ?_ _) | (with_reducible refine le_alloc ?_ _) | (with_reducible refine le_set ?_ _ _) | (with_reducible refine le_drew ?_) | (with_reducible refine le_drewN ?_ _) | omega | (dsimp only; omega)))
  have hh := h.next hb0
  obtain ⟨w0, hw⟩ : ∃ w0, w.alloc (aidO z 56) = w0 := ⟨_, rfl⟩
  have hz : w.heap.size < w0.heap.size := by rw [← hw]; simp
  rw [hw] at hp hb0 hh
  obtain ⟨c0, c1, c2, c3, c4, c5, c6, c7, c8, c9, c10, c11, c12, c13, c14, c15, _⟩ := hp
  simp only [Nat.zero_add] at c1 c2 c3 c4 c5 c6 c7 c8 c9 c10 c11 c12 c13 c14 c15
  obtain ⟨sl, ss, bd⟩ := hh
  have b1 := bd.nm
  have b5 := bd.gs
  have b6 := bd.l
  have b7 := bd.cc
  have b8 := bd.ss
  have HB := Lib.hid bd
  clear bd
  have hv : unlitB z.a = (plainCh z.a.ch && (decide (z.a.secs = []) && decide (z.a.it = 0))) := rfl
  rw [hv]
  have hpl : sameCh z.a.ch ⟨0, [], ⟨#[]⟩, ⟨#[]⟩, 0⟩ = plainCh z.a.ch := by
    have e : (⟨#[]⟩ : ByteArray).toList = [] := by rw [toL]
    rw [sameCh, plainCh, isE, isE, Bool.eq_iff_iff, e]
    simp only [Bool.and_eq_true, beq_iff_eq, decide_eq_true_eq, List.isEmpty_iff]
  have hC : ∀ w1, Sl w1 w1.heap.size 1 z.A z.n (z.a.ch.gs.flatMap intC) → Calls Tryz.prog 79 #[chV z.a.ch.k z.A z.n z.c z.a.ch.l z.a.ch.cs z.a.ch.p, chV 0 none 0 0 ⟨#[]⟩ ⟨#[]⟩ 0] w1 fun e w' => e = .returned (.bool (plainCh z.a.ch)) ∧ Below w1.heap.size w1 w' := fun w1 h1 =>
    hpl ▸ sameCharacter_c z.A none z.n 0 z.c 0 z.a.ch ⟨0, [], ⟨#[]⟩, ⟨#[]⟩, 0⟩ w1 h1 Sl.none_ b5 (by omega)
  have hm0 : decide (z.a.secs = []) = ((z.m : Int) == 0) := by
    rw [Bool.eq_iff_iff]; simp [AidG.m]
  rw [hm0]
  have Hv := Lib.hid hv; clear hv
  have Hpl := Lib.hid hpl; clear hpl
  have HC := Lib.hid hC; clear hC
  have Hm0 := Lib.hid hm0; clear hm0
  cases h1 : plainCh z.a.ch <;> cases h2 : ((z.m : Int) == 0)
  all_goals
    rw [h1] at HC
    go_enter Tryz.func111, Tryz.ntmps111
    go_wp2_with fail
    try rw [hw]
    clear hw
    refine (HC.out _ sl).mono ?_
    rintro e w1 ⟨rfl, hb1⟩
    have q1 := keepC hb1 w.heap.size hz
    go_wp2_with fail
    go_ret
    exact ⟨ret_eq (bool_eq (by first | rfl | simp | (rw [Bool.eq_iff_iff]; simp))), hb0.trans (hb1.mono hb0.size)⟩
end Go.Proofs.YtpfnnjcochhklaaGreatDoor
