
/- Aids: the reference: l12One, ValidAid. -/
import Derived.Test.YtpfnnjcochhklaaGreatDoorMarkG
import Derived.Test.YtpfnnjcochhklaaGreatDoorSecG
namespace Go.Proofs.YtpfnnjcochhklaaGreatDoor
open Go.RowKit
set_option maxHeartbeats 400000 in
theorem l02Ok_c (x y : Int) (w : World) : Calls Tryz.prog 84 #[ptV x y] w fun e w' => e = .returned (.bool (inB x 0 200000 && inB y 0 200000)) ∧ Below w.heap.size w w' := by
  cases h1 : inB x 0 200000
  all_goals
    go_enter Tryz.func84, Tryz.ntmps84
    go_wp2_with (go_at_call 82; refine (l00In_c _ _ _ _).mono ?_; rintro e w1 ⟨rfl, rfl⟩)
    go_ret
    exact ⟨ret_eq (bool_eq (by simp)), by (repeat (first | (with_reducible assumption) | (with_reducible exact Below.refl _ _) | exact Nat.le_refl _ | exact Below.size (by with_reducible assumption) | (with_reducible refine Below.drew ?_) | (with_reducible refine below_drewN ?_ _) | (with_reducible refine Below.alloc ?_ ?_ _) | (with_reducible refine Below.setCell ?_ ?_ _) | (with_reducible refine le_alloc ?_ _) | (with_reducible refine le_set ?_ _ _) | (with_reducible refine le_drew ?_) | (with_reducible refine le_drewN ?_ _) | omega | (dsimp only; omega)))⟩
theorem AidP.ch {w : World} {b off : Nat} {z : AidG} (h : AidP w b off z) (ok : AidOk w z) : ChP w b (off + 9) z.A z.n z.c z.a.ch :=
  ⟨h.c9, h.c10, h.c11, h.c12, h.c13, h.hb, ok.sl, ok.bd.gs, ok.bd.l, ok.bd.cc⟩
set_option maxRecDepth 100000 in
set_option maxHeartbeats 400000 in
theorem l12Plain_c (b off : Nat) (A : Option Addr) (n c : Nat) (x : Ch) (w : World) (h : ChP w b off A n c x) :
    Calls Tryz.prog 86 #[.pointer (some ⟨b, off, none⟩)] w fun e w' => e = .returned (.bool (plainCh x)) ∧ w = w' := by
  obtain ⟨c0, c1, c2, c3, c4, hb, sl, hn, hlz, hs⟩ := h
  have hl := sl.len intC 1 intC_len (by omega)
  have hv : plainCh x = ((x.k == 0) && (((n : Int) == 0) && (x.l.toList.isEmpty && (x.cs.toList.isEmpty && (x.p == 0))))) := by
    rw [plainCh, isE, isE, Bool.eq_iff_iff]
    simp only [Bool.and_eq_true, beq_iff_eq, decide_eq_true_eq]
    rw [← hl, ← List.length_eq_zero_iff]
    simp
  rw [hv]
  have Hv := Lib.hid hv; clear hv
  have Hl := Lib.hid hl; clear hl
  cases h1 : (x.k == 0)
  · go_enter Tryz.func86, Tryz.ntmps86
    go_wp2
    go_ret
    exact ⟨rfl, rfl⟩
  cases h2 : ((n : Int) == 0)
  · go_enter Tryz.func86, Tryz.ntmps86
    go_wp2
    go_ret
    exact ⟨rfl, rfl⟩
  cases h3 : x.l.toList.isEmpty
  · go_enter Tryz.func86, Tryz.ntmps86
    go_wp2
    go_ret
    exact ⟨rfl, rfl⟩
  cases h4 : x.cs.toList.isEmpty
  · go_enter Tryz.func86, Tryz.ntmps86
    go_wp2
    go_ret
    exact ⟨rfl, rfl⟩
  · go_enter Tryz.func86, Tryz.ntmps86
    go_wp2
    go_ret
    exact ⟨rfl, rfl⟩
set_option maxRecDepth 100000 in
set_option maxHeartbeats 2000000 in
theorem l12One_c (b off : Nat) (z : AidG) (w : World) (hp : AidP w b off z) (h : AidOk w z) :
    Calls Tryz.prog 52 #[.pointer (some ⟨b, off, none⟩)] w fun e w' => e = .returned (.bool (aidB z.a)) ∧ Below w.heap.size w w' := by
  have HC : Hid (∀ w', Below w.heap.size w w' → ChP w' b (off + 9) z.A z.n z.c z.a.ch) := Lib.hid fun w' hb => (hp.next hb).ch (h.next hb)
  have HS : Hid (∀ w', Below w.heap.size w w' → Sl w' w'.heap.size 3 z.B z.m (z.a.secs.flatMap Sec.cells)) := Lib.hid fun w' hb => h.ss.next hb
  obtain ⟨c0, c1, c2, c3, c4, c5, c6, c7, c8, c9, c10, c11, c12, c13, c14, c15, hz⟩ := hp
  obtain ⟨sl, ss, bd⟩ := h
  have b1 := bd.nm
  have b7 := bd.cc
  have b8 := bd.ss
  clear bd sl ss
  obtain ⟨P, hP0⟩ : ∃ P, (inB z.a.x 0 200000 && inB z.a.y 0 200000) = P := ⟨_, rfl⟩
  have hP : ∀ w1, Calls Tryz.prog 84 #[ptV z.a.x z.a.y] w1 fun e w' => e = .returned (.bool P) ∧ Below w1.heap.size w1 w' := fun w1 => hP0 ▸ l02Ok_c _ _ _
  obtain ⟨R, hR⟩ : ∃ R, aidB z.a = R := ⟨_, rfl⟩
  have hv : R = ((inB z.a.num 1 9999 && (nameB z.a.nm && (P && (inB z.a.h 0 3000 && markB z.a.mr)))) && (litB z.a || unlitB z.a)) := by rw [← hP0, ← hR]; rfl
  rw [hR]
  have HR := Lib.hid hR; clear hR
  have HP := Lib.hid hP; clear hP
  have HP0 := Lib.hid hP0; clear hP0
  cases h1 : inB z.a.num 1 9999
  · have hF : R = false := by rw [hv, h1]; rfl
    have Hv := Lib.hid hv; clear hv
    have HF := Lib.hid hF; clear hF
    go_enter Tryz.func52, Tryz.ntmps52
    go_wp2_with fail
    refine (l00In_c _ _ _ _).mono ?_
    rintro e w9 ⟨rfl, rfl⟩
    go_wp2_with fail
    all_goals go_ret
    all_goals exact ⟨ret_eq (bool_eq HF.out.symm), Below.refl _ _⟩
  cases h2 : nameB z.a.nm
  · have hF : R = false := by rw [hv, h1, h2]; rfl
    have Hv := Lib.hid hv; clear hv
    have HF := Lib.hid hF; clear hF
    go_enter Tryz.func52, Tryz.ntmps52
    go_wp2_with fail
    refine (l00In_c _ _ _ _).mono ?_
    rintro e w9 ⟨rfl, rfl⟩
    go_wp2_with fail
    refine (l01Name_c _ _ (by unfold maxLen; omega)).mono ?_
    rintro e w9 ⟨rfl, rfl⟩
    go_wp2_with fail
    all_goals go_ret
    all_goals exact ⟨ret_eq (bool_eq HF.out.symm), Below.refl _ _⟩
  cases P
  · have hF : R = false := by rw [hv, h1, h2]; rfl
    have Hv := Lib.hid hv; clear hv
    have HF := Lib.hid hF; clear hF
    go_enter Tryz.func52, Tryz.ntmps52
    go_wp2_with fail
    refine (l00In_c _ _ _ _).mono ?_
    rintro e w9 ⟨rfl, rfl⟩
    go_wp2_with fail
    refine (l01Name_c _ _ (by unfold maxLen; omega)).mono ?_
    rintro e w9 ⟨rfl, rfl⟩
    go_wp2_with fail
    refine (HP.out _).mono ?_
    rintro e w1 ⟨rfl, hb1⟩
    have q1 := keepC hb1 b hz
    have z1 := Nat.lt_of_lt_of_le hz hb1.size
    go_wp2_with fail
    all_goals go_ret
    all_goals exact ⟨ret_eq (bool_eq HF.out.symm), hb1⟩
  cases h4 : inB z.a.h 0 3000
  · have hF : R = false := by rw [hv, h1, h2, h4]; rfl
    have Hv := Lib.hid hv; clear hv
    have HF := Lib.hid hF; clear hF
    go_enter Tryz.func52, Tryz.ntmps52
    go_wp2_with fail
    refine (l00In_c _ _ _ _).mono ?_
    rintro e w9 ⟨rfl, rfl⟩
    go_wp2_with fail
    refine (l01Name_c _ _ (by unfold maxLen; omega)).mono ?_
    rintro e w9 ⟨rfl, rfl⟩
    go_wp2_with fail
    refine (HP.out _).mono ?_
    rintro e w1 ⟨rfl, hb1⟩
    have q1 := keepC hb1 b hz
    have z1 := Nat.lt_of_lt_of_le hz hb1.size
    go_wp2_with fail
    refine (l00In_c _ _ _ _).mono ?_
    rintro e w9 ⟨rfl, rfl⟩
    go_wp2_with fail
    all_goals go_ret
    all_goals exact ⟨ret_eq (bool_eq HF.out.symm), hb1⟩
  cases h5 : markB z.a.mr
  · have hF : R = false := by rw [hv, h1, h2, h4, h5]; rfl
    have Hv := Lib.hid hv; clear hv
    have HF := Lib.hid hF; clear hF
    go_enter Tryz.func52, Tryz.ntmps52
    go_wp2_with fail
    refine (l00In_c _ _ _ _).mono ?_
    rintro e w9 ⟨rfl, rfl⟩
    go_wp2_with fail
    refine (l01Name_c _ _ (by unfold maxLen; omega)).mono ?_
    rintro e w9 ⟨rfl, rfl⟩
    go_wp2_with fail
    refine (HP.out _).mono ?_
    rintro e w1 ⟨rfl, hb1⟩
    have q1 := keepC hb1 b hz
    have z1 := Nat.lt_of_lt_of_le hz hb1.size
    go_wp2_with fail
    refine (l00In_c _ _ _ _).mono ?_
    rintro e w9 ⟨rfl, rfl⟩
    go_wp2_with fail
    refine (specValidMark_c z.a.mr _).mono ?_
    rintro e w2 ⟨rfl, hb2⟩
    have q2 := keepC hb2 b z1
    have z2 := Nat.lt_of_lt_of_le z1 hb2.size
    replace hb2 := hb1.trans (hb2.mono hb1.size)
    go_wp2_with fail
    all_goals go_ret
    all_goals exact ⟨ret_eq (bool_eq HF.out.symm), hb2⟩
  rw [h1, h2, h4, h5] at hv
  simp only [Bool.true_and] at hv
  have hm0 : decide (z.a.secs = []) = ((z.m : Int) == 0) := by
    rw [Bool.eq_iff_iff]; simp [AidG.m]
  cases h6 : plainCh z.a.ch
  rotate_left
  · have hL : litB z.a = false := by rw [litB, plain_unlit h6]; rfl
    rw [hL, unlitB, h6, hm0] at hv
    simp only [Bool.false_or, Bool.true_and] at hv
    have HL := Lib.hid hL; clear hL
    have Hm0 := Lib.hid hm0; clear hm0
    cases h7 : ((z.m : Int) == 0)
    all_goals
      rw [h7] at hv
      have Hv := Lib.hid hv; clear hv
      go_enter Tryz.func52, Tryz.ntmps52
      go_wp2_with fail
      refine (l00In_c _ _ _ _).mono ?_
      rintro e w9 ⟨rfl, rfl⟩
      go_wp2_with fail
      refine (l01Name_c _ _ (by unfold maxLen; omega)).mono ?_
      rintro e w9 ⟨rfl, rfl⟩
      go_wp2_with fail
      refine (HP.out _).mono ?_
      rintro e w1 ⟨rfl, hb1⟩
      have q1 := keepC hb1 b hz
      have z1 := Nat.lt_of_lt_of_le hz hb1.size
      go_wp2_with fail
      refine (l00In_c _ _ _ _).mono ?_
      rintro e w9 ⟨rfl, rfl⟩
      go_wp2_with fail
      refine (specValidMark_c z.a.mr _).mono ?_
      rintro e w2 ⟨rfl, hb2⟩
      have q2 := keepC hb2 b z1
      have z2 := Nat.lt_of_lt_of_le z1 hb2.size
      replace hb2 := hb1.trans (hb2.mono hb1.size)
      go_wp2_with fail
      refine (l12Plain_c b (off + 9) z.A z.n z.c z.a.ch _ (HC.out _ hb2)).mono ?_
      rintro e w9 ⟨rfl, rfl⟩
      go_wp2_with fail
      go_ret
      exact ⟨ret_eq (bool_eq (by rw [Hv.out]; first | rfl | simp)), hb2⟩
  rw [unlitB, h6, Bool.false_and, Bool.or_false, litB] at hv
  cases h7 : validB z.a.ch
  · have hF : R = false := by rw [hv, h7]; rfl
    have Hv := Lib.hid hv; clear hv
    have HF := Lib.hid hF; clear hF
    have Hm0 := Lib.hid hm0; clear hm0
    go_enter Tryz.func52, Tryz.ntmps52
    go_wp2_with fail
    refine (l00In_c _ _ _ _).mono ?_
    rintro e w9 ⟨rfl, rfl⟩
    go_wp2_with fail
    refine (l01Name_c _ _ (by unfold maxLen; omega)).mono ?_
    rintro e w9 ⟨rfl, rfl⟩
    go_wp2_with fail
    refine (HP.out _).mono ?_
    rintro e w1 ⟨rfl, hb1⟩
    have q1 := keepC hb1 b hz
    have z1 := Nat.lt_of_lt_of_le hz hb1.size
    go_wp2_with fail
    refine (l00In_c _ _ _ _).mono ?_
    rintro e w9 ⟨rfl, rfl⟩
    go_wp2_with fail
    refine (specValidMark_c z.a.mr _).mono ?_
    rintro e w2 ⟨rfl, hb2⟩
    have q2 := keepC hb2 b z1
    have z2 := Nat.lt_of_lt_of_le z1 hb2.size
    replace hb2 := hb1.trans (hb2.mono hb1.size)
    go_wp2_with fail
    refine (l12Plain_c b (off + 9) z.A z.n z.c z.a.ch _ (HC.out _ hb2)).mono ?_
    rintro e w9 ⟨rfl, rfl⟩
    go_wp2_with fail
    refine (l05Ok_c b (off + 9) z.A z.n z.c z.a.ch _ (HC.out _ hb2)).mono ?_
    rintro e w3 ⟨rfl, hb3⟩
    have q3 := keepC hb3 b z2
    have z3 := Nat.lt_of_lt_of_le z2 hb3.size
    replace hb3 := hb2.trans (hb3.mono hb2.size)
    go_wp2_with fail
    all_goals go_ret
    all_goals exact ⟨ret_eq (bool_eq HF.out.symm), hb3⟩
  cases h8 : inB z.a.it 1 100000000
  · have hF : R = false := by rw [hv, h7, h8]; rfl
    have Hv := Lib.hid hv; clear hv
    have HF := Lib.hid hF; clear hF
    have Hm0 := Lib.hid hm0; clear hm0
    go_enter Tryz.func52, Tryz.ntmps52
    go_wp2_with fail
    refine (l00In_c _ _ _ _).mono ?_
    rintro e w9 ⟨rfl, rfl⟩
    go_wp2_with fail
    refine (l01Name_c _ _ (by unfold maxLen; omega)).mono ?_
    rintro e w9 ⟨rfl, rfl⟩
    go_wp2_with fail
    refine (HP.out _).mono ?_
    rintro e w1 ⟨rfl, hb1⟩
    have q1 := keepC hb1 b hz
    have z1 := Nat.lt_of_lt_of_le hz hb1.size
    go_wp2_with fail
    refine (l00In_c _ _ _ _).mono ?_
    rintro e w9 ⟨rfl, rfl⟩
    go_wp2_with fail
    refine (specValidMark_c z.a.mr _).mono ?_
    rintro e w2 ⟨rfl, hb2⟩
    have q2 := keepC hb2 b z1
    have z2 := Nat.lt_of_lt_of_le z1 hb2.size
    replace hb2 := hb1.trans (hb2.mono hb1.size)
    go_wp2_with fail
    refine (l12Plain_c b (off + 9) z.A z.n z.c z.a.ch _ (HC.out _ hb2)).mono ?_
    rintro e w9 ⟨rfl, rfl⟩
    go_wp2_with fail
    refine (l05Ok_c b (off + 9) z.A z.n z.c z.a.ch _ (HC.out _ hb2)).mono ?_
    rintro e w3 ⟨rfl, hb3⟩
    have q3 := keepC hb3 b z2
    have z3 := Nat.lt_of_lt_of_le z2 hb3.size
    replace hb3 := hb2.trans (hb3.mono hb2.size)
    go_wp2_with fail
    refine (l00In_c _ _ _ _).mono ?_
    rintro e w9 ⟨rfl, rfl⟩
    go_wp2_with fail
    all_goals go_ret
    all_goals exact ⟨ret_eq (bool_eq HF.out.symm), hb3⟩
  cases h9 : secsB z.a.secs
  · have hF : R = false := by rw [hv, h7, h8, h9]; rfl
    have Hv := Lib.hid hv; clear hv
    have HF := Lib.hid hF; clear hF
    have Hm0 := Lib.hid hm0; clear hm0
    go_enter Tryz.func52, Tryz.ntmps52
    go_wp2_with fail
    refine (l00In_c _ _ _ _).mono ?_
    rintro e w9 ⟨rfl, rfl⟩
    go_wp2_with fail
    refine (l01Name_c _ _ (by unfold maxLen; omega)).mono ?_
    rintro e w9 ⟨rfl, rfl⟩
    go_wp2_with fail
    refine (HP.out _).mono ?_
    rintro e w1 ⟨rfl, hb1⟩
    have q1 := keepC hb1 b hz
    have z1 := Nat.lt_of_lt_of_le hz hb1.size
    go_wp2_with fail
    refine (l00In_c _ _ _ _).mono ?_
    rintro e w9 ⟨rfl, rfl⟩
    go_wp2_with fail
    refine (specValidMark_c z.a.mr _).mono ?_
    rintro e w2 ⟨rfl, hb2⟩
    have q2 := keepC hb2 b z1
    have z2 := Nat.lt_of_lt_of_le z1 hb2.size
    replace hb2 := hb1.trans (hb2.mono hb1.size)
    go_wp2_with fail
    refine (l12Plain_c b (off + 9) z.A z.n z.c z.a.ch _ (HC.out _ hb2)).mono ?_
    rintro e w9 ⟨rfl, rfl⟩
    go_wp2_with fail
    refine (l05Ok_c b (off + 9) z.A z.n z.c z.a.ch _ (HC.out _ hb2)).mono ?_
    rintro e w3 ⟨rfl, hb3⟩
    have q3 := keepC hb3 b z2
    have z3 := Nat.lt_of_lt_of_le z2 hb3.size
    replace hb3 := hb2.trans (hb3.mono hb2.size)
    go_wp2_with fail
    refine (l00In_c _ _ _ _).mono ?_
    rintro e w9 ⟨rfl, rfl⟩
    go_wp2_with fail
    refine (l08Ok_c z.B z.m z.d z.a.secs _ (HS.out _ hb3) b8).mono ?_
    rintro e w4 ⟨rfl, hb4⟩
    have q4 := keepC hb4 b z3
    have z4 := Nat.lt_of_lt_of_le z3 hb4.size
    replace hb4 := hb3.trans (hb4.mono hb3.size)
    go_wp2_with fail
    all_goals go_ret
    all_goals exact ⟨ret_eq (bool_eq HF.out.symm), hb4⟩
  rw [h7, h8, h9] at hv
  simp only [Bool.true_and] at hv
  by_cases h10 : z.a.secs = []
  · have e4 : ((z.m : Int) == 0) = true := by rw [← hm0]; simpa using h10
    have e5 : ((z.a.ch.cs.size : Int) == 1) = decide (z.a.ch.cs.size = 1) := by rw [Bool.eq_iff_iff]; simp; omega
    rw [if_pos h10, ← e5] at hv
    have Hv := Lib.hid hv; clear hv
    have Hm0 := Lib.hid hm0; clear hm0
    have H10 := Lib.hid h10; clear h10
    have E5 := Lib.hid e5; clear e5
    go_enter Tryz.func52, Tryz.ntmps52
    go_wp2_with fail
    refine (l00In_c _ _ _ _).mono ?_
    rintro e w9 ⟨rfl, rfl⟩
    go_wp2_with fail
    refine (l01Name_c _ _ (by unfold maxLen; omega)).mono ?_
    rintro e w9 ⟨rfl, rfl⟩
    go_wp2_with fail
    refine (HP.out _).mono ?_
    rintro e w1 ⟨rfl, hb1⟩
    have q1 := keepC hb1 b hz
    have z1 := Nat.lt_of_lt_of_le hz hb1.size
    go_wp2_with fail
    refine (l00In_c _ _ _ _).mono ?_
    rintro e w9 ⟨rfl, rfl⟩
    go_wp2_with fail
    refine (specValidMark_c z.a.mr _).mono ?_
    rintro e w2 ⟨rfl, hb2⟩
    have q2 := keepC hb2 b z1
    have z2 := Nat.lt_of_lt_of_le z1 hb2.size
    replace hb2 := hb1.trans (hb2.mono hb1.size)
    go_wp2_with fail
    refine (l12Plain_c b (off + 9) z.A z.n z.c z.a.ch _ (HC.out _ hb2)).mono ?_
    rintro e w9 ⟨rfl, rfl⟩
    go_wp2_with fail
    refine (l05Ok_c b (off + 9) z.A z.n z.c z.a.ch _ (HC.out _ hb2)).mono ?_
    rintro e w3 ⟨rfl, hb3⟩
    have q3 := keepC hb3 b z2
    have z3 := Nat.lt_of_lt_of_le z2 hb3.size
    replace hb3 := hb2.trans (hb3.mono hb2.size)
    go_wp2_with fail
    refine (l00In_c _ _ _ _).mono ?_
    rintro e w9 ⟨rfl, rfl⟩
    go_wp2_with fail
    refine (l08Ok_c z.B z.m z.d z.a.secs _ (HS.out _ hb3) b8).mono ?_
    rintro e w4 ⟨rfl, hb4⟩
    have q4 := keepC hb4 b z3
    have z4 := Nat.lt_of_lt_of_le z3 hb4.size
    replace hb4 := hb3.trans (hb4.mono hb3.size)
    go_wp2_with fail
    go_ret
    exact ⟨ret_eq (bool_eq Hv.out.symm), hb4⟩
  · have e4 : ((z.m : Int) == 0) = false := by rw [← hm0]; simpa using h10
    obtain ⟨C, hC⟩ : ∃ C, bs (colsOf z.a.secs) = C := ⟨_, rfl⟩
    have hCl : colsOf z.a.secs = C.toList := by rw [← hC, bs_toList]
    rw [if_neg h10, hCl] at hv
    have Hv := Lib.hid hv; clear hv
    have Hm0 := Lib.hid hm0; clear hm0
    have H10 := Lib.hid h10; clear h10
    have HCl := Lib.hid hCl; clear hCl
    have HCC := Lib.hid hC; clear hC
    go_enter Tryz.func52, Tryz.ntmps52
    go_wp2_with fail
    refine (l00In_c _ _ _ _).mono ?_
    rintro e w9 ⟨rfl, rfl⟩
    go_wp2_with fail
    refine (l01Name_c _ _ (by unfold maxLen; omega)).mono ?_
    rintro e w9 ⟨rfl, rfl⟩
    go_wp2_with fail
    refine (HP.out _).mono ?_
    rintro e w1 ⟨rfl, hb1⟩
    have q1 := keepC hb1 b hz
    have z1 := Nat.lt_of_lt_of_le hz hb1.size
    go_wp2_with fail
    refine (l00In_c _ _ _ _).mono ?_
    rintro e w9 ⟨rfl, rfl⟩
    go_wp2_with fail
    refine (specValidMark_c z.a.mr _).mono ?_
    rintro e w2 ⟨rfl, hb2⟩
    have q2 := keepC hb2 b z1
    have z2 := Nat.lt_of_lt_of_le z1 hb2.size
    replace hb2 := hb1.trans (hb2.mono hb1.size)
    go_wp2_with fail
    refine (l12Plain_c b (off + 9) z.A z.n z.c z.a.ch _ (HC.out _ hb2)).mono ?_
    rintro e w9 ⟨rfl, rfl⟩
    go_wp2_with fail
    refine (l05Ok_c b (off + 9) z.A z.n z.c z.a.ch _ (HC.out _ hb2)).mono ?_
    rintro e w3 ⟨rfl, hb3⟩
    have q3 := keepC hb3 b z2
    have z3 := Nat.lt_of_lt_of_le z2 hb3.size
    replace hb3 := hb2.trans (hb3.mono hb2.size)
    go_wp2_with fail
    refine (l00In_c _ _ _ _).mono ?_
    rintro e w9 ⟨rfl, rfl⟩
    go_wp2_with fail
    refine (l08Ok_c z.B z.m z.d z.a.secs _ (HS.out _ hb3) b8).mono ?_
    rintro e w4 ⟨rfl, hb4⟩
    have q4 := keepC hb4 b z3
    have z4 := Nat.lt_of_lt_of_le z3 hb4.size
    replace hb4 := hb3.trans (hb4.mono hb3.size)
    go_wp2_with fail
    have e1 : ∀ {w' : World}, Below w4.heap.size w4 w' → (Below w4.heap.size w4 w' ∧ (∀ x, w'.cell? ⟨b, x, none⟩ = w4.cell? ⟨b, x, none⟩)) := fun hbb => ⟨hbb, keepC hbb _ z4⟩
    go_region_held3 (fun w' => Below w4.heap.size w4 w' ∧ (∀ x, w'.cell? ⟨b, x, none⟩ = w4.cell? ⟨b, x, none⟩)) (first | exact e1 (Below.refl _ _).drew | exact e1 ((Below.refl _ _).drew.trans hb5)) (first | (go_at_call 73; refine (l08Colors_c z.B z.m z.d z.a.secs _ ((HS.out _ hb4).next (Below.refl _ _).drew) b8).mono ?_; rw [HCC.out]; rintro e w5 ⟨rfl, hb5⟩))
    go_wp2_with fail
    go_ret
    exact ⟨ret_eq (bool_eq Hv.out.symm), hb4.trans (((Below.refl _ _).drew.trans hb5).mono hb4.size)⟩
end Go.Proofs.YtpfnnjcochhklaaGreatDoor
