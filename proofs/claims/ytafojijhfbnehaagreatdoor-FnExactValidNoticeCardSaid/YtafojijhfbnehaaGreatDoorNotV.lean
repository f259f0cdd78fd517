/- ValidNotice: both sides. -/
import Derived.Test.YtafojijhfbnehaaGreatDoorNot
namespace Go.Proofs.YtafojijhfbnehaaGreatDoor
open Go.RowKit
set_option maxRecDepth 100000 in
set_option maxHeartbeats 1000000 in
theorem specValidNotice_c (x : NtX) (z : AidG) (w : World) (hz : AidOk w z) :
    Calls Tryz.prog 20 #[ntV x z] w fun e w' => e = .returned (.bool (ntB x z.a)) ∧ Below w.heap.size w w' := by
  have hb0 : Below w.heap.size w (w.alloc (ntO x z 55)) := by (repeat (first | (with_reducible assumption) | (with_reducible exact Below.refl _ _) | exact Nat.le_refl _ | exact Below.size (by with_reducible assumption) | (with_reducible refine Below.drew ?_) | (with_reducible refine below_drewN ?_ _) | (with_reducible refine Below.alloc ?_ ?_ _) | (with_reducible refine Below.setCell ?_ ?_ _) | (with_reducible refine le_alloc ?_ _) | (with_reducible refine le_set ?_ _ _) | (with_reducible refine le_drew ?_) | (with_reducible refine le_drewN ?_ _) | omega | (dsimp only; omega)))
  have hO := l21One_c w.heap.size 0 x z _ (nt_box w x z 55) (hz.next hb0)
  obtain ⟨w0, hw⟩ : ∃ w0, w.alloc (ntO x z 55) = w0 := ⟨_, rfl⟩
  rw [hw] at hO hb0
  have HO := Lib.hid hO; clear hO
  go_enter Tryz.func20, Tryz.ntmps20
  go_wp2_with fail
  try rw [hw]
  clear hw
  refine HO.out.mono ?_
  rintro e w1 ⟨rfl, hb1⟩
  go_wp2_with fail
  go_ret
  exact ⟨rfl, hb0.trans (hb1.mono hb0.size)⟩
def hasAB (k : Int) : Bool := (k == 1) || (k == 2)
theorem hasAid_c (x : NtX) (z : AidG) (w : World) :
    Calls Tryz.prog 67 #[ntV x z] w fun e w' => e = .returned (.bool (hasAB x.k)) ∧ Below w.heap.size w w' := by
  have hb0 : Below w.heap.size w (w.alloc (ntO x z 55)) := by (repeat (first | (with_reducible assumption) | (with_reducible exact Below.refl _ _) | exact Nat.le_refl _ | exact Below.size (by with_reducible assumption) | (with_reducible refine Below.drew ?_) | (with_reducible refine below_drewN ?_ _) | (with_reducible refine Below.alloc ?_ ?_ _) | (with_reducible refine Below.setCell ?_ ?_ _) | (with_reducible refine le_alloc ?_ _) | (with_reducible refine le_set ?_ _ _) | (with_reducible refine le_drew ?_) | (with_reducible refine le_drewN ?_ _) | omega | (dsimp only; omega)))
  obtain ⟨_, _, k2, _, _⟩ := (nt_box w x z 55).zero
  obtain ⟨m, d, k, t⟩ := x
  obtain ⟨w0, hw⟩ : ∃ w0, w.alloc (ntO ⟨m, d, k, t⟩ z 55) = w0 := ⟨_, rfl⟩
  rw [hw] at hb0 k2
  simp only at k2 ⊢
  unfold hasAB
  cases h1 : (k == 1)
  all_goals
    go_enter Tryz.func67, Tryz.ntmps67
    go_wp2_with fail
    try rw [hw]
    clear hw
    go_wp2_with fail
    go_ret
    exact ⟨rfl, hb0⟩
theorem NtP.range {w : World} {b off : Nat} {x : NtX} {z : AidG} (h : NtP w b off x z) : w.rangeAt b off (ntL x z)
  | 0, v, hv => h.k0.trans hv
  | 1, v, hv => h.k1.trans hv
  | 2, v, hv => h.k2.trans hv
  | 3, v, hv => h.k3.trans hv
  | 4, v, hv => h.p.c0.trans hv
  | 5, v, hv => h.p.c1.trans hv
  | 6, v, hv => h.p.c2.trans hv
  | 7, v, hv => h.p.c3.trans hv
  | 8, v, hv => h.p.c4.trans hv
  | 9, v, hv => h.p.c5.trans hv
  | 10, v, hv => h.p.c6.trans hv
  | 11, v, hv => h.p.c7.trans hv
  | 12, v, hv => h.p.c8.trans hv
  | 13, v, hv => h.p.c9.trans hv
  | 14, v, hv => h.p.c10.trans hv
  | 15, v, hv => h.p.c11.trans hv
  | 16, v, hv => h.p.c12.trans hv
  | 17, v, hv => h.p.c13.trans hv
  | 18, v, hv => h.p.c14.trans hv
  | 19, v, hv => h.p.c15.trans hv
  | n + 20, v, hv => by simp [AidG.cells] at hv
theorem NtP.rangeA {w : World} {b off : Nat} {x : NtX} {z : AidG} (h : NtP w b off x z) : w.rangeAt b (off + 4) z.cells := fun j v hv => by
  have := h.range (j + 4) v (by simpa using hv)
  rwa [show off + (j + 4) = off + 4 + j by omega] at this
set_option maxRecDepth 100000 in
set_option maxHeartbeats 4000000 in
theorem implValidNotice_c (x : NtX) (z : AidG) (w : World) (hz : AidOk w z) (ht : Tab w) :
    Calls Tryz.prog 22 #[ntV x z] w fun e w' => e = .returned (.bool (ntB x z.a)) ∧ Below w.heap.size w w' := by
  have hb0 : Below w.heap.size w (w.alloc (ntO x z 55)) := by (repeat (first | (with_reducible assumption) | (with_reducible exact Below.refl _ _) | exact Nat.le_refl _ | exact Below.size (by with_reducible assumption) | (with_reducible refine Below.drew ?_) | (with_reducible refine below_drewN ?_ _) | (with_reducible refine Below.alloc ?_ ?_ _) | (with_reducible refine Below.setCell ?_ ?_ _) | (with_reducible refine le_alloc ?_ _) | (with_reducible refine le_set ?_ _ _) | (with_reducible refine le_drew ?_) | (with_reducible refine le_drewN ?_ _) | omega | (dsimp only; omega)))
  have hp := nt_box w x z 55
  obtain ⟨w0, hw⟩ : ∃ w0, w.alloc (ntO x z 55) = w0 := ⟨_, rfl⟩
  have hbb : w.heap.size < w0.heap.size := by rw [← hw]; simp
  rw [hw] at hp hb0
  have hO : ∀ w1, Below w0.heap.size w0 w1 → Calls Tryz.prog 68 #[z.val] w1 fun e w' => e = .returned (.bool (aidB z.a)) ∧ Below w1.heap.size w1 w' := fun w1 hb => implValidAid_c z w1 ((hz.next hb0).next hb) (ht.next (hb0.trans (hb.mono hb0.size)))
  have hN : ∀ w1, Below w0.heap.size w0 w1 → Calls Tryz.prog 69 #[z.val, aidZn.val] w1 fun e w' => e = .returned (.bool (aidNil z.a)) ∧ Below w1.heap.size w1 w' := fun w1 hb => sameAidNil_c z w1 ((hz.next hb0).next hb)
  have hH := fun w1 => hasAid_c x z w1
  have hR0 : ∀ w1, Below w0.heap.size w0 w1 → w1.rangeAt w.heap.size 0 (ntL x z) := fun w1 hb => rangeB hp.range hb hbb
  have hRA : ∀ w1, Below w0.heap.size w0 w1 → w1.rangeAt w.heap.size 4 z.cells := fun w1 hb => rangeB (by have := hp.rangeA; rwa [Nat.zero_add] at this) hb hbb
  obtain ⟨k0, k1, k2, k3, _⟩ := hp.zero
  obtain ⟨m, d, k, t⟩ := x
  simp only at k0 k1 k2 k3 hH
  obtain ⟨O, hOd⟩ : ∃ O, aidB z.a = O := ⟨_, rfl⟩
  obtain ⟨N, hNd⟩ : ∃ N, aidNil z.a = N := ⟨_, rfl⟩
  obtain ⟨H, hHd⟩ : ∃ H, hasAB k = H := ⟨_, rfl⟩
  obtain ⟨R, hR⟩ : ∃ R, ntB ⟨m, d, k, t⟩ z.a = R := ⟨_, rfl⟩
  have hv : R = (inB m 1 9999 && (inB d 0 99999 && (inB k 1 4 && bif H then O && (t == 0) else N && inB t 1 9999))) := by
    rw [← hOd, ← hNd, ← hHd, ← hR]
    show (inB m 1 9999 && (inB d 0 99999 && (if k = 1 ∨ k = 2 then aidB z.a && (t == 0) else if k = 3 ∨ k = 4 then aidNil z.a && inB t 1 9999 else false))) = _
    congr 2
    unfold hasAB inB
    by_cases h1 : k = 1 ∨ k = 2
    · rw [if_pos h1]
      rcases h1 with rfl | rfl <;> simp
    · rw [if_neg h1]
      have e1 : (k == 1) = false := by simp only [beq_eq_false_iff_ne]; omega
      have e2 : (k == 2) = false := by simp only [beq_eq_false_iff_ne]; omega
      rw [e1, e2]
      by_cases h2 : k = 3 ∨ k = 4
      · rw [if_pos h2]
        rcases h2 with rfl | rfl <;> simp
      · rw [if_neg h2]
        have : ¬ (1 ≤ k ∧ k ≤ 4) := by omega
        by_cases h3 : 1 ≤ k
        · have h4 : ¬ k ≤ 4 := by omega
          simp [h4]
        · simp [h3]
  rw [hR]
  rw [hHd] at hH
  clear hR hp hz
  have hO' : ∀ w1, Below w0.heap.size w0 w1 → Calls Tryz.prog 68 #[z.val] w1 fun e w' => e = .returned (.bool O) ∧ Below w1.heap.size w1 w' := fun w1 hb => hOd ▸ hO w1 hb
  have hN' : ∀ w1, Below w0.heap.size w0 w1 → Calls Tryz.prog 69 #[z.val, aidZn.val] w1 fun e w' => e = .returned (.bool N) ∧ Below w1.heap.size w1 w' := fun w1 hb => hNd ▸ hN w1 hb
  clear hO hN hOd hNd hHd
  have HO := Lib.hid hO'; clear hO'
  have HN := Lib.hid hN'; clear hN'
  have HH := Lib.hid hH; clear hH
  have HR0 := Lib.hid hR0; clear hR0
  have HRA := Lib.hid hRA; clear hRA
  cases h1 : inB m 1 9999
  · have hF : R = false := by rw [hv, h1]; rfl
    have Hv := Lib.hid hv; clear hv
    have HF := Lib.hid hF; clear hF
    go_enter Tryz.func22, Tryz.ntmps22
    go_wp2_with fail
    try rw [hw]
    clear hw
    go_wp2_with (first | (go_at_call 64; refine (isNumber_c _ _).mono ?_; rintro e w1 ⟨rfl, rfl⟩) | (go_at_call 65; refine (ntDayI_c _ _).mono ?_; rintro e w1 ⟨rfl, rfl⟩) | (go_at_call 66; refine (within_c _ _ _ _).mono ?_; rintro e w1 ⟨rfl, rfl⟩) | (refine wpList_load_mid rfl _ _ rfl w.heap.size 0 rfl (ntL ⟨m, d, k, t⟩ z) _ (HR0.out _ (Below.refl _ _)) Tryz.underlying55 rfl (by kernel_rfl) ?_))
    go_ret
    exact ⟨ret_eq (bool_eq HF.out.symm), hb0⟩
  cases h2 : inB d 0 99999
  · have hF : R = false := by rw [hv, h1, h2]; rfl
    have Hv := Lib.hid hv; clear hv
    have HF := Lib.hid hF; clear hF
    go_enter Tryz.func22, Tryz.ntmps22
    go_wp2_with fail
    try rw [hw]
    clear hw
    go_wp2_with (first | (go_at_call 64; refine (isNumber_c _ _).mono ?_; rintro e w1 ⟨rfl, rfl⟩) | (go_at_call 65; refine (ntDayI_c _ _).mono ?_; rintro e w1 ⟨rfl, rfl⟩) | (go_at_call 66; refine (within_c _ _ _ _).mono ?_; rintro e w1 ⟨rfl, rfl⟩) | (refine wpList_load_mid rfl _ _ rfl w.heap.size 0 rfl (ntL ⟨m, d, k, t⟩ z) _ (HR0.out _ (Below.refl _ _)) Tryz.underlying55 rfl (by kernel_rfl) ?_))
    go_ret
    exact ⟨ret_eq (bool_eq HF.out.symm), hb0⟩
  cases h3 : inB k 1 4
  · have hF : R = false := by rw [hv, h1, h2, h3]; rfl
    have Hv := Lib.hid hv; clear hv
    have HF := Lib.hid hF; clear hF
    go_enter Tryz.func22, Tryz.ntmps22
    go_wp2_with fail
    try rw [hw]
    clear hw
    go_wp2_with (first | (go_at_call 64; refine (isNumber_c _ _).mono ?_; rintro e w1 ⟨rfl, rfl⟩) | (go_at_call 65; refine (ntDayI_c _ _).mono ?_; rintro e w1 ⟨rfl, rfl⟩) | (go_at_call 66; refine (within_c _ _ _ _).mono ?_; rintro e w1 ⟨rfl, rfl⟩) | (refine wpList_load_mid rfl _ _ rfl w.heap.size 0 rfl (ntL ⟨m, d, k, t⟩ z) _ (HR0.out _ (Below.refl _ _)) Tryz.underlying55 rfl (by kernel_rfl) ?_))
    go_ret
    exact ⟨ret_eq (bool_eq HF.out.symm), hb0⟩
  rw [h1, h2, h3, Bool.true_and, Bool.true_and, Bool.true_and] at hv
  cases H
  · rw [cond_false] at hv
    have Hv := Lib.hid hv; clear hv
    cases N
    all_goals
      go_enter Tryz.func22, Tryz.ntmps22
      go_wp2_with fail
      try rw [hw]
      clear hw
      go_wp2_with (first | (go_at_call 64; refine (isNumber_c _ _).mono ?_; rintro e w1 ⟨rfl, rfl⟩) | (go_at_call 65; refine (ntDayI_c _ _).mono ?_; rintro e w1 ⟨rfl, rfl⟩) | (go_at_call 66; refine (within_c _ _ _ _).mono ?_; rintro e w1 ⟨rfl, rfl⟩) | (refine wpList_load_mid rfl _ _ rfl w.heap.size 0 rfl (ntL ⟨m, d, k, t⟩ z) _ (HR0.out _ (Below.refl _ _)) Tryz.underlying55 rfl (by kernel_rfl) ?_))
      go_wp2_with (first | ((with_reducible refine (HH.out _).mono ?_); rintro e w1 ⟨rfl, hb1⟩; have q1 := keepC hb1 w.heap.size hbb) | (refine wpList_load_mid rfl _ _ rfl w.heap.size 4 rfl z.cells _ (HRA.out _ hb1) Tryz.underlying53 rfl (by kernel_rfl) ?_))
      refine (HN.out _ hb1).mono ?_
      rintro e w2 ⟨rfl, hb2⟩
      have hb12 := hb1.trans (hb2.mono hb1.size)
      clear q1
      have q2 := keepC hb12 w.heap.size hbb
      go_wp2_with (first | (go_at_call 64; refine (isNumber_c _ _).mono ?_; rintro e w1 ⟨rfl, rfl⟩))
      go_ret
      exact ⟨ret_eq (bool_eq Hv.out.symm), hb0.trans (hb12.mono hb0.size)⟩
  · rw [cond_true] at hv
    have Hv := Lib.hid hv; clear hv
    cases O
    all_goals
      go_enter Tryz.func22, Tryz.ntmps22
      go_wp2_with fail
      try rw [hw]
      clear hw
      go_wp2_with (first | (go_at_call 64; refine (isNumber_c _ _).mono ?_; rintro e w1 ⟨rfl, rfl⟩) | (go_at_call 65; refine (ntDayI_c _ _).mono ?_; rintro e w1 ⟨rfl, rfl⟩) | (go_at_call 66; refine (within_c _ _ _ _).mono ?_; rintro e w1 ⟨rfl, rfl⟩) | (refine wpList_load_mid rfl _ _ rfl w.heap.size 0 rfl (ntL ⟨m, d, k, t⟩ z) _ (HR0.out _ (Below.refl _ _)) Tryz.underlying55 rfl (by kernel_rfl) ?_))
      go_wp2_with (first | ((with_reducible refine (HH.out _).mono ?_); rintro e w1 ⟨rfl, hb1⟩; have q1 := keepC hb1 w.heap.size hbb) | (refine wpList_load_mid rfl _ _ rfl w.heap.size 4 rfl z.cells _ (HRA.out _ hb1) Tryz.underlying53 rfl (by kernel_rfl) ?_))
      refine (HO.out _ hb1).mono ?_
      rintro e w2 ⟨rfl, hb2⟩
      have hb12 := hb1.trans (hb2.mono hb1.size)
      clear q1
      have q2 := keepC hb12 w.heap.size hbb
      go_wp2_with fail
      go_ret
      exact ⟨ret_eq (bool_eq Hv.out.symm), hb0.trans (hb12.mono hb0.size)⟩
end Go.Proofs.YtafojijhfbnehaaGreatDoor
