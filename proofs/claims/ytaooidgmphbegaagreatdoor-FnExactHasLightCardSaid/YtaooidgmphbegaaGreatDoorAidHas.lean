/- HasLight, both sides. -/
import Derived.Test.YtaooidgmphbegaaGreatDoorAidS
import Derived.Test.YtaooidgmphbegaaGreatDoorAidI3
namespace Go.Proofs.YtaooidgmphbegaaGreatDoor
open Go.RowKit
def hasLB (a : AidX) : Bool := aidB a && litB a
theorem has_kind {a : AidX} (h : aidB a = true) : (!(a.ch.k == 0)) = litB a := by
  cases hl : litB a
  · have hu : unlitB a = true := by rw [aidB, hl] at h; simp at h; exact h.2
    simp [unlit_kind hu]
  · simp [lit_kind hl]
set_option maxHeartbeats 400000 in
theorem l12Lit_c (b off : Nat) (z : AidG) (w : World) (hp : AidP w b off z) : Calls Tryz.prog 79 #[.pointer (some ⟨b, off, none⟩)] w fun e w' => e = .returned (.bool (!(z.a.ch.k == 0))) ∧ w = w' := by
  obtain ⟨c0, c1, c2, c3, c4, c5, c6, c7, c8, c9, c10, c11, c12, c13, c14, c15, hz⟩ := hp
  go_enter Tryz.func79, Tryz.ntmps79
  go_wp2
  go_ret
  exact ⟨rfl, rfl⟩
set_option maxRecDepth 100000 in
set_option maxHeartbeats 1000000 in
theorem specHasLight_c (z : AidG) (w : World) (h : AidOk w z) :
    Calls Tryz.prog 20 #[z.val] w fun e w' => e = .returned (.bool (hasLB z.a)) ∧ Below w.heap.size w w' := by
  have hp := aidp_box w z 39
  have hb0 : Below w.heap.size w (w.alloc (aidO z 39)) := by (repeat (first | (with_reducible assumption) | (with_reducible exact Below.refl _ _) | exact Nat.le_refl _ | exact Below.size (by with_reducible assumption) | (with_reducible refine Below.drew ?_) | (with_reducible refine below_drewN ?_ _) | (with_reducible refine Below.alloc ?_ ?_ _) | (with_reducible refine Below.setCell ?_ ?_ _) | (with_reducible refine le_alloc ?_ _) | (with_reducible refine le_set ?_ _ _) | (with_reducible refine le_drew ?_) | (with_reducible refine le_drewN ?_ _) | omega | (dsimp only; omega)))
  have hh := h.next hb0
  have hk := has_kind (a := z.a)
  have hv : hasLB z.a = (aidB z.a && litB z.a) := rfl
  rw [hv]
  have Hv := Lib.hid hv; clear hv
  have Hk := Lib.hid hk; clear hk
  cases ha : aidB z.a
  · go_enter Tryz.func20, Tryz.ntmps20
    go_wp2_with fail
    refine (l12One_c _ _ z _ hp hh).mono ?_
    rintro e w1 ⟨rfl, hb1⟩
    go_wp2_with fail
    go_ret
    exact ⟨rfl, hb0.trans (hb1.mono hb0.size)⟩
  · have hk := Hk.out ha
    have Hk2 := Lib.hid hk; clear hk
    go_enter Tryz.func20, Tryz.ntmps20
    go_wp2_with fail
    refine (l12One_c _ _ z _ hp hh).mono ?_
    rintro e w1 ⟨rfl, hb1⟩
    go_wp2_with fail
    refine (l12Lit_c _ _ z _ (hp.next hb1)).mono ?_
    rw [Hk2.out]
    rintro e w2 ⟨rfl, rfl⟩
    go_wp2_with fail
    go_ret
    exact ⟨ret_eq (bool_eq (by simp)), hb0.trans (hb1.mono hb0.size)⟩
set_option maxRecDepth 100000 in
set_option maxHeartbeats 1000000 in
theorem implHasLight_c (z : AidG) (w : World) (h : AidOk w z) (ht : Tab w) :
    Calls Tryz.prog 21 #[z.val] w fun e w' => e = .returned (.bool (hasLB z.a)) ∧ Below w.heap.size w w' := by
  have h00 := h
  have hp := aidp_box w z 39
  have hb0 : Below w.heap.size w (w.alloc (aidO z 39)) := by (repeat (first | (with_reducible assumption) | (with_reducible exact Below.refl _ _) | exact Nat.le_refl _ | exact Below.size (by with_reducible assumption) | (with_reducible refine Below.drew ?_) | (with_reducible refine below_drewN ?_ _) | (with_reducible refine Below.alloc ?_ ?_ _) | (with_reducible refine Below.setCell ?_ ?_ _) | (with_reducible refine le_alloc ?_ _) | (with_reducible refine le_set ?_ _ _) | (with_reducible refine le_drew ?_) | (with_reducible refine le_drewN ?_ _) | omega | (dsimp only; omega)))
  have hh := h.next hb0
  obtain ⟨w0, hw⟩ : ∃ w0, w.alloc (aidO z 39) = w0 := ⟨_, rfl⟩
  have hz : w.heap.size < w0.heap.size := by rw [← hw]; simp
  rw [hw] at hp hb0 hh
  obtain ⟨c0, c1, c2, c3, c4, c5, c6, c7, c8, c9, c10, c11, c12, c13, c14, c15, _⟩ := hp
  simp only [Nat.zero_add] at c1 c2 c3 c4 c5 c6 c7 c8 c9 c10 c11 c12 c13 c14 c15
  obtain ⟨sl, ss, bd⟩ := hh
  have b1 := bd.nm
  have b5 := bd.gs
  have b6 := bd.l
  have b7 := bd.cc
  have b8 := bd.ss
  have HB := Lib.hid bd
  clear bd
  have HH : Hid (AidOk w0 z) := Lib.hid (h00.next hb0)
  have ht0 := ht.next hb0
  have hv : hasLB z.a = (aidB z.a && litB z.a) := rfl
  rw [hv]
  have Hv := Lib.hid hv; clear hv
  cases ha : aidB z.a
  · go_enter Tryz.func21, Tryz.ntmps21
    go_wp2_with fail
    try rw [hw]
    clear hw
    refine (implValidAid_c z _ HH.out ht0).mono ?_
    rintro e w1 ⟨rfl, hb1⟩
    go_wp2_with fail
    go_ret
    exact ⟨rfl, hb0.trans (hb1.mono hb0.size)⟩
  · go_enter Tryz.func21, Tryz.ntmps21
    go_wp2_with fail
    try rw [hw]
    clear hw
    refine (implValidAid_c z _ HH.out ht0).mono ?_
    rintro e w1 ⟨rfl, hb1⟩
    have q1 := keepC hb1 w.heap.size hz
    go_wp2_with fail
    refine (lit_c z _ (HH.out.next hb1)).mono ?_
    rintro e w2 ⟨rfl, hb2⟩
    replace hb2 := hb1.trans (hb2.mono hb1.size)
    go_wp2_with fail
    go_ret
    exact ⟨ret_eq (bool_eq (by simp)), hb0.trans (hb2.mono hb0.size)⟩
end Go.Proofs.YtaooidgmphbegaaGreatDoor
