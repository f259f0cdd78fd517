
/- Aids: the program: ValidAid. -/
import Derived.Test.YtpfnnjcochhklaaGreatDoorAidI2
namespace Go.Proofs.YtpfnnjcochhklaaGreatDoor
open Go.RowKit
set_option maxRecDepth 100000 in
set_option maxHeartbeats 2000000 in
theorem implValidAid_c (z : AidG) (w : World) (h : AidOk w z) (ht : Tab w) :
    Calls Tryz.prog 78 #[z.val] w fun e w' => e = .returned (.bool (aidB z.a)) ∧ Below w.heap.size w w' := by
  have h00 := h
  have hp := aidp_box w z 56
  have hb0 : Below w.heap.size w (w.alloc (aidO z 56)) := by (repeat (first | (with_reducible assumption) | (with_reducible exact Below.refl _ _) | exact Nat.le_refl _ | exact Below.size (by with_reducible assumption) | (with_reducible refine Below.drew ?_) | (with_reducible refine below_drewN ?_ _) | (with_reducible refine Below.alloc ?_ ?_ _) | (with_reducible refine Below.setCell ?_ ?_ _) | (with_reducible refine le_alloc ?_ _) | (with_reducible refine le_set ?_ _ _) | (with_reducible refine le_drew ?_) | (with_reducible refine le_drewN ?_ _) | omega | (dsimp only; omega)))
  have hh := h.next hb0
  obtain ⟨w0, hw⟩ : ∃ w0, w.alloc (aidO z 56) = w0 := ⟨_, rfl⟩
  have hz : w.heap.size < w0.heap.size := by rw [← hw]; simp
  rw [hw] at hp hb0 hh
  obtain ⟨c0, c1, c2, c3, c4, c5, c6, c7, c8, c9, c10, c11, c12, c13, c14, c15, _⟩ := hp
  simp only [Nat.zero_add] at c1 c2 c3 c4 c5 c6 c7 c8 c9 c10 c11 c12 c13 c14 c15
  obtain ⟨sl, ss, bd⟩ := hh
  have b1 := bd.nm
  have b5 := bd.gs
  have b6 := bd.l
  have b7 := bd.cc
  have b8 := bd.ss
  have HB := Lib.hid bd
  clear bd
  have HH : Hid (AidOk w0 z) := Lib.hid (h00.next hb0)
  have HT : Hid (∀ w', Below w0.heap.size w0 w' → Tab w') := Lib.hid fun w' hb => (ht.next hb0).next hb
  clear h00 ht
  obtain ⟨P, hP0⟩ : ∃ P, (inB z.a.x 0 200000 && inB z.a.y 0 200000) = P := ⟨_, rfl⟩
  have hP : ∀ w1, Calls Tryz.prog 107 #[ptV z.a.x z.a.y] w1 fun e w' => e = .returned (.bool P) ∧ Below w1.heap.size w1 w' := fun w1 => hP0 ▸ validPoint_c _ _ _
  have hv : aidB z.a = ((inB z.a.num 1 9999 && (nameB z.a.nm && (P && (inB z.a.h 0 3000 && markB z.a.mr)))) && (litB z.a || unlitB z.a)) := by rw [← hP0]; rfl
  rw [hv]
  have Hv := Lib.hid hv; clear hv
  have HP := Lib.hid hP; clear hP
  have HP0 := Lib.hid hP0; clear hP0
  cases h1 : inB z.a.num 1 9999
  · go_enter Tryz.func78, Tryz.ntmps78
    go_wp2_with fail
    try rw [hw]
    clear hw
    refine (isNumber_c _ _).mono ?_
    rintro e w9 ⟨rfl, rfl⟩
    go_wp2_with fail
    all_goals go_ret
    all_goals exact ⟨rfl, hb0⟩
  cases h2 : nameB z.a.nm
  · go_enter Tryz.func78, Tryz.ntmps78
    go_wp2_with fail
    try rw [hw]
    clear hw
    refine (isNumber_c _ _).mono ?_
    rintro e w9 ⟨rfl, rfl⟩
    go_wp2_with fail
    refine (isName_c _ _ (by unfold maxLen; omega)).mono ?_
    rintro e w9 ⟨rfl, rfl⟩
    go_wp2_with fail
    all_goals go_ret
    all_goals exact ⟨rfl, hb0⟩
  cases P
  · go_enter Tryz.func78, Tryz.ntmps78
    go_wp2_with fail
    try rw [hw]
    clear hw
    refine (isNumber_c _ _).mono ?_
    rintro e w9 ⟨rfl, rfl⟩
    go_wp2_with fail
    refine (isName_c _ _ (by unfold maxLen; omega)).mono ?_
    rintro e w9 ⟨rfl, rfl⟩
    go_wp2_with fail
    refine (HP.out _).mono ?_
    rintro e w1 ⟨rfl, hb1⟩
    have q1 := keepC hb1 w.heap.size hz
    have z1 := Nat.lt_of_lt_of_le hz hb1.size
    go_wp2_with fail
    all_goals go_ret
    all_goals exact ⟨rfl, hb0.trans (hb1.mono hb0.size)⟩
  cases h4 : inB z.a.h 0 3000
  · go_enter Tryz.func78, Tryz.ntmps78
    go_wp2_with fail
    try rw [hw]
    clear hw
    refine (isNumber_c _ _).mono ?_
    rintro e w9 ⟨rfl, rfl⟩
    go_wp2_with fail
    refine (isName_c _ _ (by unfold maxLen; omega)).mono ?_
    rintro e w9 ⟨rfl, rfl⟩
    go_wp2_with fail
    refine (HP.out _).mono ?_
    rintro e w1 ⟨rfl, hb1⟩
    have q1 := keepC hb1 w.heap.size hz
    have z1 := Nat.lt_of_lt_of_le hz hb1.size
    go_wp2_with fail
    refine (isHeight_c _ _).mono ?_
    rintro e w9 ⟨rfl, rfl⟩
    go_wp2_with fail
    all_goals go_ret
    all_goals exact ⟨rfl, hb0.trans (hb1.mono hb0.size)⟩
  cases h5 : markB z.a.mr
  · go_enter Tryz.func78, Tryz.ntmps78
    go_wp2_with fail
    try rw [hw]
    clear hw
    refine (isNumber_c _ _).mono ?_
    rintro e w9 ⟨rfl, rfl⟩
    go_wp2_with fail
    refine (isName_c _ _ (by unfold maxLen; omega)).mono ?_
    rintro e w9 ⟨rfl, rfl⟩
    go_wp2_with fail
    refine (HP.out _).mono ?_
    rintro e w1 ⟨rfl, hb1⟩
    have q1 := keepC hb1 w.heap.size hz
    have z1 := Nat.lt_of_lt_of_le hz hb1.size
    go_wp2_with fail
    refine (isHeight_c _ _).mono ?_
    rintro e w9 ⟨rfl, rfl⟩
    go_wp2_with fail
    refine (implValidMark_c z.a.mr _ (HT.out _ hb1)).mono ?_
    rintro e w2 ⟨rfl, hb2⟩
    have q2 := keepC hb2 w.heap.size z1
    have z2 := Nat.lt_of_lt_of_le z1 hb2.size
    replace hb2 := hb1.trans (hb2.mono hb1.size)
    go_wp2_with fail
    all_goals go_ret
    all_goals exact ⟨rfl, hb0.trans (hb2.mono hb0.size)⟩
  cases h6 : litB z.a
  · go_enter Tryz.func78, Tryz.ntmps78
    go_wp2_with fail
    try rw [hw]
    clear hw
    refine (isNumber_c _ _).mono ?_
    rintro e w9 ⟨rfl, rfl⟩
    go_wp2_with fail
    refine (isName_c _ _ (by unfold maxLen; omega)).mono ?_
    rintro e w9 ⟨rfl, rfl⟩
    go_wp2_with fail
    refine (HP.out _).mono ?_
    rintro e w1 ⟨rfl, hb1⟩
    have q1 := keepC hb1 w.heap.size hz
    have z1 := Nat.lt_of_lt_of_le hz hb1.size
    go_wp2_with fail
    refine (isHeight_c _ _).mono ?_
    rintro e w9 ⟨rfl, rfl⟩
    go_wp2_with fail
    refine (implValidMark_c z.a.mr _ (HT.out _ hb1)).mono ?_
    rintro e w2 ⟨rfl, hb2⟩
    have q2 := keepC hb2 w.heap.size z1
    have z2 := Nat.lt_of_lt_of_le z1 hb2.size
    replace hb2 := hb1.trans (hb2.mono hb1.size)
    go_wp2_with fail
    refine (lit_c z _ (HH.out.next hb2)).mono ?_
    rintro e w3 ⟨rfl, hb3⟩
    have q3 := keepC hb3 w.heap.size z2
    replace hb3 := hb2.trans (hb3.mono hb2.size)
    go_wp2_with fail
    refine (unlit_c z _ (HH.out.next hb3)).mono ?_
    rintro e w4 ⟨rfl, hb4⟩
    replace hb4 := hb3.trans (hb4.mono hb3.size)
    go_wp2_with fail
    go_ret
    exact ⟨ret_eq (bool_eq (by simp)), hb0.trans (hb4.mono hb0.size)⟩
  · go_enter Tryz.func78, Tryz.ntmps78
    go_wp2_with fail
    try rw [hw]
    clear hw
    refine (isNumber_c _ _).mono ?_
    rintro e w9 ⟨rfl, rfl⟩
    go_wp2_with fail
    refine (isName_c _ _ (by unfold maxLen; omega)).mono ?_
    rintro e w9 ⟨rfl, rfl⟩
    go_wp2_with fail
    refine (HP.out _).mono ?_
    rintro e w1 ⟨rfl, hb1⟩
    have q1 := keepC hb1 w.heap.size hz
    have z1 := Nat.lt_of_lt_of_le hz hb1.size
    go_wp2_with fail
    refine (isHeight_c _ _).mono ?_
    rintro e w9 ⟨rfl, rfl⟩
    go_wp2_with fail
    refine (implValidMark_c z.a.mr _ (HT.out _ hb1)).mono ?_
    rintro e w2 ⟨rfl, hb2⟩
    have q2 := keepC hb2 w.heap.size z1
    have z2 := Nat.lt_of_lt_of_le z1 hb2.size
    replace hb2 := hb1.trans (hb2.mono hb1.size)
    go_wp2_with fail
    refine (lit_c z _ (HH.out.next hb2)).mono ?_
    rintro e w3 ⟨rfl, hb3⟩
    have q3 := keepC hb3 w.heap.size z2
    replace hb3 := hb2.trans (hb3.mono hb2.size)
    go_wp2_with fail
    all_goals go_ret
    all_goals exact ⟨rfl, hb0.trans (hb3.mono hb0.size)⟩
end Go.Proofs.YtpfnnjcochhklaaGreatDoor
