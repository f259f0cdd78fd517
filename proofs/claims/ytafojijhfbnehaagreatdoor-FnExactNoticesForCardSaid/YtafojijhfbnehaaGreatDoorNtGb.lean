/- NtGb: several of my texts in one. -/
import Derived.Test.YtafojijhfbnehaaGreatDoorNot
/- ValidNotice: both sides. -/
namespace Go.Proofs.YtafojijhfbnehaaGreatDoor
open Go.RowKit
set_option maxRecDepth 100000 in
set_option maxHeartbeats 1000000 in
theorem specValidNotice_c (x : NtX) (z : AidG) (w : World) (hz : AidOk w z) :
    Calls Tryz.prog 20 #[ntV x z] w fun e w' => e = .returned (.bool (ntB x z.a)) ∧ Below w.heap.size w w' := by
  have hb0 : Below w.heap.size w (w.alloc (ntO x z 55)) := by (repeat (first | (with_reducible assumption) | (with_reducible exact Below.refl _ _) | exact Nat.le_refl _ | exact Below.size (by with_reducible assumption) | (with_reducible refine Below.drew ?_) | (with_reducible refine below_drewN ?_ _) | (with_reducible refine Below.alloc ?_ ?_ _) | (with_reducible refine Below.setCell ?_ ?_ _) | (with_reducible refine le_alloc ?_ _) | (with_reducible refine le_set ?_ _ _) | (with_reducible refine le_drew ?_) | (with_reducible refine le_drewN ?_ _) | omega | (dsimp only; omega)))
  have hO := l21One_c w.heap.size 0 x z _ (nt_box w x z 55) (hz.next hb0)
  obtain ⟨w0, hw⟩ : ∃ w0, w.alloc (ntO x z 55) = w0 := ⟨_, rfl⟩
  rw [hw] at hO hb0
  have HO := Lib.hid hO; clear hO
  go_enter Tryz.func20, Tryz.ntmps20
  go_wp2_with fail
  try rw [hw]
  clear hw
  refine HO.out.mono ?_
  rintro e w1 ⟨rfl, hb1⟩
  go_wp2_with fail
  go_ret
  exact ⟨rfl, hb0.trans (hb1.mono hb0.size)⟩
def hasAB (k : Int) : Bool := (k == 1) || (k == 2)
theorem hasAid_c (x : NtX) (z : AidG) (w : World) :
    Calls Tryz.prog 67 #[ntV x z] w fun e w' => e = .returned (.bool (hasAB x.k)) ∧ Below w.heap.size w w' := by
  have hb0 : Below w.heap.size w (w.alloc (ntO x z 55)) := by (repeat (first | (with_reducible assumption) | (with_reducible exact Below.refl _ _) | exact Nat.le_refl _ | exact Below.size (by with_reducible assumption) | (with_reducible refine Below.drew ?_) | (with_reducible refine below_drewN ?_ _) | (with_reducible refine Below.alloc ?_ ?_ _) | (with_reducible refine Below.setCell ?_ ?_ _) | (with_reducible refine le_alloc ?_ _) | (with_reducible refine le_set ?_ _ _) | (with_reducible refine le_drew ?_) | (with_reducible refine le_drewN ?_ _) | omega | (dsimp only; omega)))
  obtain ⟨_, _, k2, _, _⟩ := (nt_box w x z 55).zero
  obtain ⟨m, d, k, t⟩ := x
  obtain ⟨w0, hw⟩ : ∃ w0, w.alloc (ntO ⟨m, d, k, t⟩ z 55) = w0 := ⟨_, rfl⟩
  rw [hw] at hb0 k2
  simp only at k2 ⊢
  unfold hasAB
  cases h1 : (k == 1)
  all_goals
    go_enter Tryz.func67, Tryz.ntmps67
    go_wp2_with fail
    try rw [hw]
    clear hw
    go_wp2_with fail
    go_ret
    exact ⟨rfl, hb0⟩
theorem NtP.range {w : World} {b off : Nat} {x : NtX} {z : AidG} (h : NtP w b off x z) : w.rangeAt b off (ntL x z)
  | 0, v, hv => h.k0.trans hv
  | 1, v, hv => h.k1.trans hv
  | 2, v, hv => h.k2.trans hv
  | 3, v, hv => h.k3.trans hv
  | 4, v, hv => h.p.c0.trans hv
  | 5, v, hv => h.p.c1.trans hv
  | 6, v, hv => h.p.c2.trans hv
  | 7, v, hv => h.p.c3.trans hv
  | 8, v, hv => h.p.c4.trans hv
  | 9, v, hv => h.p.c5.trans hv
  | 10, v, hv => h.p.c6.trans hv
  | 11, v, hv => h.p.c7.trans hv
  | 12, v, hv => h.p.c8.trans hv
  | 13, v, hv => h.p.c9.trans hv
  | 14, v, hv => h.p.c10.trans hv
  | 15, v, hv => h.p.c11.trans hv
  | 16, v, hv => h.p.c12.trans hv
  | 17, v, hv => h.p.c13.trans hv
  | 18, v, hv => h.p.c14.trans hv
  | 19, v, hv => h.p.c15.trans hv
  | n + 20, v, hv => by simp [AidG.cells] at hv
theorem NtP.rangeA {w : World} {b off : Nat} {x : NtX} {z : AidG} (h : NtP w b off x z) : w.rangeAt b (off + 4) z.cells := fun j v hv => by
  have := h.range (j + 4) v (by simpa using hv)
  rwa [show off + (j + 4) = off + 4 + j by omega] at this
set_option maxRecDepth 100000 in
set_option maxHeartbeats 4000000 in
theorem implValidNotice_c (x : NtX) (z : AidG) (w : World) (hz : AidOk w z) (ht : Tab w) :
    Calls Tryz.prog 22 #[ntV x z] w fun e w' => e = .returned (.bool (ntB x z.a)) ∧ Below w.heap.size w w' := by
  have hb0 : Below w.heap.size w (w.alloc (ntO x z 55)) := by (repeat (first | (with_reducible assumption) | (with_reducible exact Below.refl _ _) | exact Nat.le_refl _ | exact Below.size (by with_reducible assumption) | (with_reducible refine Below.drew ?_) | (with_reducible refine below_drewN ?_ _) | (with_reducible refine Below.alloc ?_ ?_ _) | (with_reducible refine Below.setCell ?_ ?_ _) | (with_reducible refine le_alloc ?_ _) | (with_reducible refine le_set ?_ _ _) | (with_reducible refine le_drew ?_) | (with_reducible refine le_drewN ?_ _) | omega | (dsimp only; omega)))
  have hp := nt_box w x z 55
  obtain ⟨w0, hw⟩ : ∃ w0, w.alloc (ntO x z 55) = w0 := ⟨_, rfl⟩
  have hbb : w.heap.size < w0.heap.size := by rw [← hw]; simp
  rw [hw] at hp hb0
  have hO : ∀ w1, Below w0.heap.size w0 w1 → Calls Tryz.prog 68 #[z.val] w1 fun e w' => e = .returned (.bool (aidB z.a)) ∧ Below w1.heap.size w1 w' := fun w1 hb => implValidAid_c z w1 ((hz.next hb0).next hb) (ht.next (hb0.trans (hb.mono hb0.size)))
  have hN : ∀ w1, Below w0.heap.size w0 w1 → Calls Tryz.prog 69 #[z.val, aidZn.val] w1 fun e w' => e = .returned (.bool (aidNil z.a)) ∧ Below w1.heap.size w1 w' := fun w1 hb => sameAidNil_c z w1 ((hz.next hb0).next hb)
  have hH := fun w1 => hasAid_c x z w1
  have hR0 : ∀ w1, Below w0.heap.size w0 w1 → w1.rangeAt w.heap.size 0 (ntL x z) := fun w1 hb => rangeB hp.range hb hbb
  have hRA : ∀ w1, Below w0.heap.size w0 w1 → w1.rangeAt w.heap.size 4 z.cells := fun w1 hb => rangeB (by have := hp.rangeA; rwa [Nat.zero_add] at this) hb hbb
  obtain ⟨k0, k1, k2, k3, _⟩ := hp.zero
  obtain ⟨m, d, k, t⟩ := x
  simp only at k0 k1 k2 k3 hH
  obtain ⟨O, hOd⟩ : ∃ O, aidB z.a = O := ⟨_, rfl⟩
  obtain ⟨N, hNd⟩ : ∃ N, aidNil z.a = N := ⟨_, rfl⟩
  obtain ⟨H, hHd⟩ : ∃ H, hasAB k = H := ⟨_, rfl⟩
  obtain ⟨R, hR⟩ : ∃ R, ntB ⟨m, d, k, t⟩ z.a = R := ⟨_, rfl⟩
  have hv : R = (inB m 1 9999 && (inB d 0 99999 && (inB k 1 4 && bif H then O && (t == 0) else N && inB t 1 9999))) := by
    rw [← hOd, ← hNd, ← hHd, ← hR]
    show (inB m 1 9999 && (inB d 0 99999 && (if k = 1 ∨ k = 2 then aidB z.a && (t == 0) else if k = 3 ∨ k = 4 then aidNil z.a && inB t 1 9999 else false))) = _
    congr 2
    unfold hasAB inB
    by_cases h1 : k = 1 ∨ k = 2
    · rw [if_pos h1]
      rcases h1 with rfl | rfl <;> simp
    · rw [if_neg h1]
      have e1 : (k == 1) = false := by simp only [beq_eq_false_iff_ne]; omega
      have e2 : (k == 2) = false := by simp only [beq_eq_false_iff_ne]; omega
      rw [e1, e2]
      by_cases h2 : k = 3 ∨ k = 4
      · rw [if_pos h2]
        rcases h2 with rfl | rfl <;> simp
      · rw [if_neg h2]
        have : ¬ (1 ≤ k ∧ k ≤ 4) := by omega
        by_cases h3 : 1 ≤ k
        · have h4 : ¬ k ≤ 4 := by omega
          simp [h4]
        · simp [h3]
  rw [hR]
  rw [hHd] at hH
  clear hR hp hz
  have hO' : ∀ w1, Below w0.heap.size w0 w1 → Calls Tryz.prog 68 #[z.val] w1 fun e w' => e = .returned (.bool O) ∧ Below w1.heap.size w1 w' := fun w1 hb => hOd ▸ hO w1 hb
  have hN' : ∀ w1, Below w0.heap.size w0 w1 → Calls Tryz.prog 69 #[z.val, aidZn.val] w1 fun e w' => e = .returned (.bool N) ∧ Below w1.heap.size w1 w' := fun w1 hb => hNd ▸ hN w1 hb
  clear hO hN hOd hNd hHd
  have HO := Lib.hid hO'; clear hO'
  have HN := Lib.hid hN'; clear hN'
  have HH := Lib.hid hH; clear hH
  have HR0 := Lib.hid hR0; clear hR0
  have HRA := Lib.hid hRA; clear hRA
  cases h1 : inB m 1 9999
  · have hF : R = false := by rw [hv, h1]; rfl
    have Hv := Lib.hid hv; clear hv
    have HF := Lib.hid hF; clear hF
    go_enter Tryz.func22, Tryz.ntmps22
    go_wp2_with fail
    try rw [hw]
    clear hw
    go_wp2_with (first | (go_at_call 64; refine (isNumber_c _ _).mono ?_; rintro e w1 ⟨rfl, rfl⟩) | (go_at_call 65; refine (ntDayI_c _ _).mono ?_; rintro e w1 ⟨rfl, rfl⟩) | (go_at_call 66; refine (within_c _ _ _ _).mono ?_; rintro e w1 ⟨rfl, rfl⟩) | (refine wpList_load_mid rfl _ _ rfl w.heap.size 0 rfl (ntL ⟨m, d, k, t⟩ z) _ (HR0.out _ (Below.refl _ _)) Tryz.underlying55 rfl (by kernel_rfl) ?_))
    go_ret
    exact ⟨ret_eq (bool_eq HF.out.symm), hb0⟩
  cases h2 : inB d 0 99999
  · have hF : R = false := by rw [hv, h1, h2]; rfl
    have Hv := Lib.hid hv; clear hv
    have HF := Lib.hid hF; clear hF
    go_enter Tryz.func22, Tryz.ntmps22
    go_wp2_with fail
    try rw [hw]
    clear hw
    go_wp2_with (first | (go_at_call 64; refine (isNumber_c _ _).mono ?_; rintro e w1 ⟨rfl, rfl⟩) | (go_at_call 65; refine (ntDayI_c _ _).mono ?_; rintro e w1 ⟨rfl, rfl⟩) | (go_at_call 66; refine (within_c _ _ _ _).mono ?_; rintro e w1 ⟨rfl, rfl⟩) | (refine wpList_load_mid rfl _ _ rfl w.heap.size 0 rfl (ntL ⟨m, d, k, t⟩ z) _ (HR0.out _ (Below.refl _ _)) Tryz.underlying55 rfl (by kernel_rfl) ?_))
    go_ret
    exact ⟨ret_eq (bool_eq HF.out.symm), hb0⟩
  cases h3 : inB k 1 4
  · have hF : R = false := by rw [hv, h1, h2, h3]; rfl
    have Hv := Lib.hid hv; clear hv
    have HF := Lib.hid hF; clear hF
    go_enter Tryz.func22, Tryz.ntmps22
    go_wp2_with fail
    try rw [hw]
    clear hw
    go_wp2_with (first | (go_at_call 64; refine (isNumber_c _ _).mono ?_; rintro e w1 ⟨rfl, rfl⟩) | (go_at_call 65; refine (ntDayI_c _ _).mono ?_; rintro e w1 ⟨rfl, rfl⟩) | (go_at_call 66; refine (within_c _ _ _ _).mono ?_; rintro e w1 ⟨rfl, rfl⟩) | (refine wpList_load_mid rfl _ _ rfl w.heap.size 0 rfl (ntL ⟨m, d, k, t⟩ z) _ (HR0.out _ (Below.refl _ _)) Tryz.underlying55 rfl (by kernel_rfl) ?_))
    go_ret
    exact ⟨ret_eq (bool_eq HF.out.symm), hb0⟩
  rw [h1, h2, h3, Bool.true_and, Bool.true_and, Bool.true_and] at hv
  cases H
  · rw [cond_false] at hv
    have Hv := Lib.hid hv; clear hv
    cases N
    all_goals
      go_enter Tryz.func22, Tryz.ntmps22
      go_wp2_with fail
      try rw [hw]
      clear hw
      go_wp2_with (first | (go_at_call 64; refine (isNumber_c _ _).mono ?_; rintro e w1 ⟨rfl, rfl⟩) | (go_at_call 65; refine (ntDayI_c _ _).mono ?_; rintro e w1 ⟨rfl, rfl⟩) | (go_at_call 66; refine (within_c _ _ _ _).mono ?_; rintro e w1 ⟨rfl, rfl⟩) | (refine wpList_load_mid rfl _ _ rfl w.heap.size 0 rfl (ntL ⟨m, d, k, t⟩ z) _ (HR0.out _ (Below.refl _ _)) Tryz.underlying55 rfl (by kernel_rfl) ?_))
      go_wp2_with (first | ((with_reducible refine (HH.out _).mono ?_); rintro e w1 ⟨rfl, hb1⟩; have q1 := keepC hb1 w.heap.size hbb) | (refine wpList_load_mid rfl _ _ rfl w.heap.size 4 rfl z.cells _ (HRA.out _ hb1) Tryz.underlying53 rfl (by kernel_rfl) ?_))
      refine (HN.out _ hb1).mono ?_
      rintro e w2 ⟨rfl, hb2⟩
      have hb12 := hb1.trans (hb2.mono hb1.size)
      clear q1
      have q2 := keepC hb12 w.heap.size hbb
      go_wp2_with (first | (go_at_call 64; refine (isNumber_c _ _).mono ?_; rintro e w1 ⟨rfl, rfl⟩))
      go_ret
      exact ⟨ret_eq (bool_eq Hv.out.symm), hb0.trans (hb12.mono hb0.size)⟩
  · rw [cond_true] at hv
    have Hv := Lib.hid hv; clear hv
    cases O
    all_goals
      go_enter Tryz.func22, Tryz.ntmps22
      go_wp2_with fail
      try rw [hw]
      clear hw
      go_wp2_with (first | (go_at_call 64; refine (isNumber_c _ _).mono ?_; rintro e w1 ⟨rfl, rfl⟩) | (go_at_call 65; refine (ntDayI_c _ _).mono ?_; rintro e w1 ⟨rfl, rfl⟩) | (go_at_call 66; refine (within_c _ _ _ _).mono ?_; rintro e w1 ⟨rfl, rfl⟩) | (refine wpList_load_mid rfl _ _ rfl w.heap.size 0 rfl (ntL ⟨m, d, k, t⟩ z) _ (HR0.out _ (Below.refl _ _)) Tryz.underlying55 rfl (by kernel_rfl) ?_))
      go_wp2_with (first | ((with_reducible refine (HH.out _).mono ?_); rintro e w1 ⟨rfl, hb1⟩; have q1 := keepC hb1 w.heap.size hbb) | (refine wpList_load_mid rfl _ _ rfl w.heap.size 4 rfl z.cells _ (HRA.out _ hb1) Tryz.underlying53 rfl (by kernel_rfl) ?_))
      refine (HO.out _ hb1).mono ?_
      rintro e w2 ⟨rfl, hb2⟩
      have hb12 := hb1.trans (hb2.mono hb1.size)
      clear q1
      have q2 := keepC hb12 w.heap.size hbb
      go_wp2_with fail
      go_ret
      exact ⟨ret_eq (bool_eq Hv.out.symm), hb0.trans (hb12.mono hb0.size)⟩
end Go.Proofs.YtafojijhfbnehaaGreatDoor
/- Laws of one notice: boxes. -/
namespace Go.Proofs.YtafojijhfbnehaaGreatDoor
open Go.RowKit
theorem nt_there0 (w : World) (E : TypeId) : (w.alloc (ntZ E)).there w.heap.size 0 20 := fun j hj => by
  have hb : (w.alloc (ntZ E)).heap[w.heap.size]? = some (ntZ E) := heap_alloc_new w _
  refine ⟨?_, frozen_of_row _ _ _ _ _ hb⟩
  rw [Nat.zero_add, cell_of_row _ _ _ _ _ _ hb, Array.getElem?_eq_getElem (by simpa using hj)]
  rfl
set_option maxRecDepth 100000 in
set_option maxHeartbeats 4000000 in
theorem lawValidNotice_c (x : NtX) (z : AidG) (w : World) (h : AidRd w z) (ht : Tab w) :
    Calls Tryz.prog 4 #[ntV x z] w fun e w' => e = .returned (.bool true) ∧ Below w.heap.size w w' := by
  have hb0 : Below w.heap.size w (w.alloc (ntO x z 45)) := by (repeat (first | (with_reducible assumption) | (with_reducible exact Below.refl _ _) | exact Nat.le_refl _ | exact Below.size (by with_reducible assumption) | (with_reducible refine Below.drew ?_) | (with_reducible refine below_drewN ?_ _) | (with_reducible refine Below.alloc ?_ ?_ _) | (with_reducible refine Below.setCell ?_ ?_ _) | (with_reducible refine le_alloc ?_ _) | (with_reducible refine le_set ?_ _ _) | (with_reducible refine le_drew ?_) | (with_reducible refine le_drewN ?_ _) | omega | (dsimp only; omega)))
  have HR0 := Lib.hid (nt_box w x z 45).range
  have h0 := h.next hb0
  have hsz : w.heap.size < (w.alloc (ntO x z 45)).heap.size := by simp
  have H0 := Lib.hid h0; clear h0
  go_enter Tryz.func4, Tryz.ntmps4
  go_wp2_with (refine wpList_load_mid rfl _ _ rfl w.heap.size (0) rfl (ntL x z) _ (HR0.out) Tryz.underlying45 rfl (by kernel_rfl) ?_)
  refine (szNotice_c x z _ _ H0.out (by omega) (by omega)).mono ?_
  rintro e w1 ⟨r, rfl, hr, hb1⟩
  have R1 : ∀ w', Below w1.heap.size w1 w' → w'.rangeAt w.heap.size 0 (ntL x z) := fun w' hb => rangeB (rangeB HR0.out hb1 hsz) hb (Nat.lt_of_lt_of_le hsz hb1.size)
  replace hb1 := hb0.trans (hb1.mono hb0.size)
  clear HR0 H0 hb0 hsz
  have Hr := Lib.hid hr; clear hr
  have HR1 := Lib.hid R1; clear R1
  go_wp2_with (refine wpList_load_mid rfl _ _ rfl w.heap.size (0) rfl (ntL x z) _ (HR1.out _ (Below.refl _ _)) Tryz.underlying45 rfl (by kernel_rfl) ?_)
  · go_ret
    exact ⟨rfl, hb1⟩
  have bd : AidBd z.a := by
    rcases Hr.out with h3 | ⟨_, _, h3⟩
    · omega
    · exact h3
  clear Hr
  have s0 : AidOk w z := h.ok bd
  clear h
  refine (toNotice_c x z _ (s0.next hb1)).mono ?_
  rintro e w2 ⟨⟨a2, A2, c2, B2, d2⟩, rfl, ha2, ho2, hb2⟩
  simp only at ha2
  subst ha2
  have s2 := ho2.ok bd
  clear ho2
  go_wp2_with fail
  refine (specValidNotice_c x ⟨z.a, A2, c2, B2, d2⟩ _ s2).mono ?_
  rintro e w3 ⟨rfl, hb3⟩
  have b3 := hb2.trans (hb3.mono hb2.size)
  clear hb2 hb3 s2
  go_wp2_with (refine wpList_load_mid rfl _ _ rfl w.heap.size (0) rfl (ntL x z) _ (HR1.out _ b3) Tryz.underlying45 rfl (by kernel_rfl) ?_)
  refine (toNotice_c x z _ (s0.next (hb1.trans (b3.mono hb1.size)))).mono ?_
  rintro e w4 ⟨⟨a4, A4, c4, B4, d4⟩, rfl, ha4, ho4, hb4⟩
  simp only at ha4
  subst ha4
  have b4 := b3.trans (hb4.mono b3.size)
  clear b3 hb4
  have hR5 := World.rangeAt_setCells_same _ (w4).heap.size 0 (ntL (x) (⟨z.a, A4, c4, B4, d4⟩)) (nt_there0 w4 55)
  have hb5 := belowW (w4).heap.size (Nat.le_refl _) (ntL (x) (⟨z.a, A4, c4, B4, d4⟩)) 0 _ ((Below.refl (w4).heap.size w4).alloc (Nat.le_refl _) (ntZ 55))
  have TT := nt_there0 w4 55
  have SZ : (w4).heap.size < (((w4).alloc (ntZ 55)).setCells (w4).heap.size 0 (ntL (x) (⟨z.a, A4, c4, B4, d4⟩))).heap.size := by rw [sizeW]; simp
  obtain ⟨w5, hWW⟩ : ∃ v, ((w4).alloc (ntZ 55)).setCells (w4).heap.size 0 (ntL (x) (⟨z.a, A4, c4, B4, d4⟩)) = v := ⟨_, rfl⟩
  rw [hWW] at hR5 hb5 SZ
  have OO : (List.toArray (ntL (x) (⟨z.a, A4, c4, B4, d4⟩))).all (·.oneCell') = true := all_oneCell_toArray (ntg_one ⟨x, ⟨z.a, A4, c4, B4, d4⟩⟩)
  have HTT := Lib.hid TT; clear TT
  have HWW := Lib.hid hWW; clear hWW
  have HOO := Lib.hid OO; clear OO
  have b5 := b4.trans (hb5.mono b4.size)
  have s5 := (ho4.next hb5).ok bd
  clear ho4 hb5 b4
  have HR5 := Lib.hid hR5; clear hR5
  go_wp2_with (first | (refine wpList_store_mid rfl _ _ _ rfl (w4).heap.size 0 (List.toArray (ntL (x) (⟨z.a, A4, c4, B4, d4⟩))) rfl rfl HTT.out (by kernel_rfl) HOO.out ?_; rw [show ((w4).alloc (ntZ 55)).setCells (w4).heap.size 0 (List.toArray (ntL (x) (⟨z.a, A4, c4, B4, d4⟩))).toList = w5 from HWW.out]) | (refine wpList_load_mid rfl _ _ rfl w4.heap.size (0) rfl (ntL x ⟨z.a, A4, c4, B4, d4⟩) _ (HR5.out) Tryz.underlying55 rfl (by kernel_rfl) ?_))
  clear HTT HWW HOO
  refine (implValidNotice_c x ⟨z.a, A4, c4, B4, d4⟩ _ s5 (ht.next (hb1.trans (b5.mono hb1.size)))).mono ?_
  rintro e w6 ⟨rfl, hb6⟩
  have R6 : ∀ w', Below w6.heap.size w6 w' → w'.rangeAt w4.heap.size 0 (ntL x ⟨z.a, A4, c4, B4, d4⟩) := fun w' hb => rangeB (rangeB HR5.out hb6 SZ) hb (Nat.lt_of_lt_of_le SZ hb6.size)
  have b6 := b5.trans (hb6.mono b5.size)
  have s6 := s5.next hb6
  have RN : ∀ w', Below w6.heap.size w6 w' → w'.rangeAt w.heap.size 0 (ntL x z) := fun w' hb => HR1.out w' (b6.trans (hb.mono b6.size))
  clear hb6 HR5 s5 b5 HR1
  have HR6 := Lib.hid R6; clear R6
  have HRN := Lib.hid RN; clear RN
  go_wp2_with fail
  refine wp_region_held_drew (S := fun w' => Below w6.heap.size w6 w') (by kernel_rfl) (Below.refl _ _).drew (fun hHeld => ?_)
  refine wpAnyH_take (i := 0) (v := .agg (List.toArray (ntL x ⟨z.a, A4, c4, B4, d4⟩))) rfl (by kernel_rfl) (by kernel_rfl) (by kernel_rfl) (fun _ _ _ h => h) (yieldsIf_load_mid rfl _ _ rfl w4.heap.size (0) rfl (ntL x ⟨z.a, A4, c4, B4, d4⟩) _ HR6.out Tryz.underlying55 rfl (by kernel_rfl)) (by assumption) ?_
  try simp only [Act.put, List.setIfInBounds_toArray, List.set_cons_zero, List.set_cons_succ, List.getElem_toArray, List.getElem_cons_zero]
  refine wpAnyH_take (i := 1) (v := .agg (List.toArray (ntL x z))) rfl (by kernel_rfl) (by kernel_rfl) (by kernel_rfl) (fun _ _ _ h => h) (yieldsIf_load_mid rfl _ _ rfl w.heap.size (0) rfl (ntL x z) _ HRN.out Tryz.underlying45 rfl (by kernel_rfl)) (by assumption) ?_
  try simp only [Act.put, List.setIfInBounds_toArray, List.set_cons_zero, List.set_cons_succ, List.getElem_toArray, List.getElem_cons_zero, List.getElem_cons_succ]
  refine wpAnyH_ready (rs := [2]) (by kernel_rfl) (by simp) ?_
  refine AllReadyH.cons (o := _) rfl (fun K hK => ?_) AllReadyH.nil
  go_simp
  refine (toNotice_c x z _ (s0.next (hb1.trans ((b6.trans ((Below.refl _ _).drew.mono b6.size)).mono hb1.size)))).mono ?_; rintro e w7 ⟨⟨a7, A7, c7, B7, d7⟩, rfl, ha7, ho7, hb7⟩; simp only at ha7; subst ha7; have hbr7 := (Below.refl w6.heap.size w6).drew.trans hb7
  refine hK.out _ _ ?_ (fun hHeld => ?_)
  · exact hbr7
  clear hK K
  try simp only [Act.put, List.setIfInBounds_toArray, List.set_cons_zero, List.set_cons_succ, List.getElem_toArray, List.getElem_cons_zero, List.getElem_cons_succ]
  refine wpAnyH_ready (rs := [3]) (by kernel_rfl) (by simp) ?_
  refine AllReadyH.cons (o := _) rfl (fun K hK => ?_) AllReadyH.nil
  go_simp
  refine (eqNotice_c x z.a A4 A7 B4 B7 c4 c7 d4 d7 _ (s6.next hbr7) (ho7.ok bd)).mono ?_; rintro e w8 ⟨rfl, hb8⟩; have hbr8 := hbr7.trans (hb8.mono hbr7.size)
  refine hK.out _ _ ?_ (fun hHeld => ?_)
  · exact hbr8
  clear hK K
  try simp only [Act.put, List.setIfInBounds_toArray, List.set_cons_zero, List.set_cons_succ, List.getElem_toArray, List.getElem_cons_zero, List.getElem_cons_succ]
  (first
    | (refine wpAnyH_take (i := 4) (v := ?_) rfl (by kernel_rfl) (by kernel_rfl) (by kernel_rfl) (fun _ _ _ h => h) (Or.inl ⟨by rfl, ?_⟩) (by assumption) ?_
       rotate_left
       focus (intro wq hSq; (try dsimp only at hSq); go_simp; (try (with_reducible rfl)); done))
    | (refine wpAnyH_take (i := 4) (v := undef) rfl (by kernel_rfl) (by kernel_rfl) (by kernel_rfl) (fun _ _ _ h => h) (Or.inr ⟨by rfl, rfl⟩) (by assumption) ?_)
    | fail "take 4")
  try simp only [Act.put, List.setIfInBounds_toArray, List.set_cons_zero, List.set_cons_succ, List.getElem_toArray, List.getElem_cons_zero, List.getElem_cons_succ]
  refine wpAnyH_done (by kernel_rfl) ?_ _
  clear hHeld
  have b8 := b6.trans (hbr8.mono b6.size)
  go_wp2_with fail
  go_ret
  exact ⟨rfl, hb1.trans (b8.mono hb1.size)⟩
end Go.Proofs.YtafojijhfbnehaaGreatDoor
