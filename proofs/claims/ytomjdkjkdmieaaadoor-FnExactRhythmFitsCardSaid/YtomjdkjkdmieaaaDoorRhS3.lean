/- Rhythms that fit a mark: the reference: the whole. -/
import Derived.Test.YtomjdkjkdmieaaaDoorRhS2
namespace Go.Proofs.YtomjdkjkdmieaaaDoor
open Go.RowKit
set_option maxRecDepth 100000 in
set_option maxHeartbeats 4000000 in
theorem l11Fits_c (b off : Nat) (A : Option Addr) (n c : Nat) (x : Ch) (k : Int) (w : World) (h : ChP w b off A n c x) (hk : inB k 0 9 = true) :
    Calls Tryd.prog 21 #[.int .i64 k, .pointer (some ⟨b, off, none⟩)] w fun e w' => e = .returned (.bool (fitR k x)) ∧ Below w.heap.size w w' := by
  have hh := inB_iff.1 hk
  obtain ⟨c0, c1, c2, c3, c4, hb, -, -, -, -⟩ := id h
  have hcases : k = 0 ∨ k = 1 ∨ k = 2 ∨ k = 3 ∨ k = 4 ∨ k = 5 ∨ k = 6 ∨ k = 7 ∨ k = 8 ∨ k = 9 := by omega
  clear hk hh
  rcases hcases with rfl | rfl | rfl | rfl | rfl | rfl | rfl | rfl | rfl | rfl
  · go_enter Tryd.func21, Tryd.ntmps21
    go_wp2_with fail
    go_ret
    exact ⟨ret_eq (bool_eq (by first | rfl | simp)), by (repeat (first | (with_reducible assumption) | (with_reducible exact Below.refl _ _) | exact Nat.le_refl _ | exact Below.size (by with_reducible assumption) | (with_reducible refine Below.drew ?_) | (with_reducible refine below_drewN ?_ _) | (with_reducible refine Below.alloc ?_ ?_ _) | (with_reducible refine Below.setCell ?_ ?_ _) | (with_reducible refine le_alloc ?_ _) | (with_reducible refine le_set ?_ _ _) | (with_reducible refine le_drew ?_) | (with_reducible refine le_drewN ?_ _) | omega | (dsimp only; omega)))⟩
  · have hv : fitR 1 x = (x.cs.toList == [82]) := rfl
    rw [hv]
    go_enter Tryd.func21, Tryd.ntmps21
    go_wp2_with fail
    go_ret
    exact ⟨ret_eq (bool_eq (by first | rfl | simp)), by (repeat (first | (with_reducible assumption) | (with_reducible exact Below.refl _ _) | exact Nat.le_refl _ | exact Below.size (by with_reducible assumption) | (with_reducible refine Below.drew ?_) | (with_reducible refine below_drewN ?_ _) | (with_reducible refine Below.alloc ?_ ?_ _) | (with_reducible refine Below.setCell ?_ ?_ _) | (with_reducible refine le_alloc ?_ _) | (with_reducible refine le_set ?_ _ _) | (with_reducible refine le_drew ?_) | (with_reducible refine le_drewN ?_ _) | omega | (dsimp only; omega)))⟩
  · have hv : fitR 2 x = (x.cs.toList == [71]) := rfl
    rw [hv]
    go_enter Tryd.func21, Tryd.ntmps21
    go_wp2_with fail
    go_ret
    exact ⟨ret_eq (bool_eq (by first | rfl | simp)), by (repeat (first | (with_reducible assumption) | (with_reducible exact Below.refl _ _) | exact Nat.le_refl _ | exact Below.size (by with_reducible assumption) | (with_reducible refine Below.drew ?_) | (with_reducible refine below_drewN ?_ _) | (with_reducible refine Below.alloc ?_ ?_ _) | (with_reducible refine Below.setCell ?_ ?_ _) | (with_reducible refine le_alloc ?_ _) | (with_reducible refine le_set ?_ _ _) | (with_reducible refine le_drew ?_) | (with_reducible refine le_drewN ?_ _) | omega | (dsimp only; omega)))⟩
  · have hv : fitR 3 x = ((x.cs.toList == [87]) && quickB x [] [] 0 0) := rfl
    rw [hv]
    have hQ := l11Quick_c b off A n c x 0 0 0 [] [] w h (by decide) (by decide) rfl rfl
    obtain ⟨Q, hQe⟩ : ∃ Q, quickB x [] [] 0 0 = Q := ⟨_, rfl⟩
    rw [hQe] at hQ ⊢
    have HQ := Lib.hid hQ; clear hQ
    clear hQe hv
    cases hW : (x.cs.toList == [87])
    · go_enter Tryd.func21, Tryd.ntmps21
      go_wp2_with fail
      go_ret
      exact ⟨ret_eq (bool_eq (by first | rfl | simp)), by (repeat (first | (with_reducible assumption) | (with_reducible exact Below.refl _ _) | exact Nat.le_refl _ | exact Below.size (by with_reducible assumption) | (with_reducible refine Below.drew ?_) | (with_reducible refine below_drewN ?_ _) | (with_reducible refine Below.alloc ?_ ?_ _) | (with_reducible refine Below.setCell ?_ ?_ _) | (with_reducible refine le_alloc ?_ _) | (with_reducible refine le_set ?_ _ _) | (with_reducible refine le_drew ?_) | (with_reducible refine le_drewN ?_ _) | omega | (dsimp only; omega)))⟩
    · go_enter Tryd.func21, Tryd.ntmps21
      go_wp2_with fail
      refine (HQ.out).mono ?_
      rintro e w1 ⟨rfl, hb1⟩
      go_wp2_with fail
      go_ret
      exact ⟨ret_eq (bool_eq (by simp)), hb1⟩
  · have hv : fitR 4 x = ((x.cs.toList == [87]) && quickB x [] [3] 100 50) := rfl
    rw [hv]
    have hQ := l11Quick_c b off A n c x 3 100 50 [] [3] w h (by decide) (by decide) rfl rfl
    obtain ⟨Q, hQe⟩ : ∃ Q, quickB x [] [3] 100 50 = Q := ⟨_, rfl⟩
    rw [hQe] at hQ ⊢
    have HQ := Lib.hid hQ; clear hQ
    clear hQe hv
    cases hW : (x.cs.toList == [87])
    · go_enter Tryd.func21, Tryd.ntmps21
      go_wp2_with fail
      go_ret
      exact ⟨ret_eq (bool_eq (by first | rfl | simp)), by (repeat (first | (with_reducible assumption) | (with_reducible exact Below.refl _ _) | exact Nat.le_refl _ | exact Below.size (by with_reducible assumption) | (with_reducible refine Below.drew ?_) | (with_reducible refine below_drewN ?_ _) | (with_reducible refine Below.alloc ?_ ?_ _) | (with_reducible refine Below.setCell ?_ ?_ _) | (with_reducible refine le_alloc ?_ _) | (with_reducible refine le_set ?_ _ _) | (with_reducible refine le_drew ?_) | (with_reducible refine le_drewN ?_ _) | omega | (dsimp only; omega)))⟩
    · go_enter Tryd.func21, Tryd.ntmps21
      go_wp2_with fail
      refine (HQ.out).mono ?_
      rintro e w1 ⟨rfl, hb1⟩
      go_wp2_with fail
      go_ret
      exact ⟨ret_eq (bool_eq (by simp)), hb1⟩
  · have hv : fitR 5 x = ((x.cs.toList == [87]) && quickB x [76] [6] 150 100) := rfl
    rw [hv]
    have hQ := l11Quick_c b off A n c x 6 150 100 [76] [6] w h (by decide) (by decide) rfl rfl
    obtain ⟨Q, hQe⟩ : ∃ Q, quickB x [76] [6] 150 100 = Q := ⟨_, rfl⟩
    rw [hQe] at hQ ⊢
    have HQ := Lib.hid hQ; clear hQ
    clear hQe hv
    cases hW : (x.cs.toList == [87])
    · go_enter Tryd.func21, Tryd.ntmps21
      go_wp2_with fail
      go_ret
      exact ⟨ret_eq (bool_eq (by first | rfl | simp)), by (repeat (first | (with_reducible assumption) | (with_reducible exact Below.refl _ _) | exact Nat.le_refl _ | exact Below.size (by with_reducible assumption) | (with_reducible refine Below.drew ?_) | (with_reducible refine below_drewN ?_ _) | (with_reducible refine Below.alloc ?_ ?_ _) | (with_reducible refine Below.setCell ?_ ?_ _) | (with_reducible refine le_alloc ?_ _) | (with_reducible refine le_set ?_ _ _) | (with_reducible refine le_drew ?_) | (with_reducible refine le_drewN ?_ _) | omega | (dsimp only; omega)))⟩
    · go_enter Tryd.func21, Tryd.ntmps21
      go_wp2_with fail
      refine (HQ.out).mono ?_
      rintro e w1 ⟨rfl, hb1⟩
      go_wp2_with fail
      go_ret
      exact ⟨ret_eq (bool_eq (by simp)), hb1⟩
  · have hv : fitR 6 x = ((x.cs.toList == [87]) && quickB x [] [9] 150 100) := rfl
    rw [hv]
    have hQ := l11Quick_c b off A n c x 9 150 100 [] [9] w h (by decide) (by decide) rfl rfl
    obtain ⟨Q, hQe⟩ : ∃ Q, quickB x [] [9] 150 100 = Q := ⟨_, rfl⟩
    rw [hQe] at hQ ⊢
    have HQ := Lib.hid hQ; clear hQ
    clear hQe hv
    cases hW : (x.cs.toList == [87])
    · go_enter Tryd.func21, Tryd.ntmps21
      go_wp2_with fail
      go_ret
      exact ⟨ret_eq (bool_eq (by first | rfl | simp)), by (repeat (first | (with_reducible assumption) | (with_reducible exact Below.refl _ _) | exact Nat.le_refl _ | exact Below.size (by with_reducible assumption) | (with_reducible refine Below.drew ?_) | (with_reducible refine below_drewN ?_ _) | (with_reducible refine Below.alloc ?_ ?_ _) | (with_reducible refine Below.setCell ?_ ?_ _) | (with_reducible refine le_alloc ?_ _) | (with_reducible refine le_set ?_ _ _) | (with_reducible refine le_drew ?_) | (with_reducible refine le_drewN ?_ _) | omega | (dsimp only; omega)))⟩
    · go_enter Tryd.func21, Tryd.ntmps21
      go_wp2_with fail
      refine (HQ.out).mono ?_
      rintro e w1 ⟨rfl, hb1⟩
      go_wp2_with fail
      go_ret
      exact ⟨ret_eq (bool_eq (by simp)), hb1⟩
  · have hv : fitR 7 x = ((x.cs.toList == [87]) && (x.k == 4 && decide (x.gs = [2]))) := rfl
    rw [hv]
    have hbA : Below w.heap.size w (w.alloc (.cells #[.int .i64 2] 2)) := by (repeat (first | (with_reducible assumption) | (with_reducible exact Below.refl _ _) | exact Nat.le_refl _ | exact Below.size (by with_reducible assumption) | (with_reducible refine Below.drew ?_) | (with_reducible refine below_drewN ?_ _) | (with_reducible refine Below.alloc ?_ ?_ _) | (with_reducible refine Below.setCell ?_ ?_ _) | (with_reducible refine le_alloc ?_ _) | (with_reducible refine le_set ?_ _ _) | (with_reducible refine le_drew ?_) | (with_reducible refine le_drewN ?_ _) | omega | (dsimp only; omega)))
    have hsA : Sl (w.alloc (.cells #[.int .i64 2] 2)) (w.alloc (.cells #[.int .i64 2] 2)).heap.size 1 (some ⟨w.heap.size, 0, none⟩) 1 (([2] : List Int).flatMap intC) := by
      rw [show (w.alloc (.cells #[.int .i64 2] 2)).heap.size = w.heap.size + 1 by simp]
      exact Sl.new w 2 (intC 2) 1 1 rfl
    have hQ := l11Rhythm_c b off A n c x 4 (-1) (some ⟨w.heap.size, 0, none⟩) 1 1 [2] _ (h.next hbA) hsA (by decide)
    rw [decide_eq_true (show (-1 : Int) < 0 by decide), Bool.true_or, Bool.and_true] at hQ
    obtain ⟨Q, hQe⟩ : ∃ Q, (x.k == 4 && decide (x.gs = [2])) = Q := ⟨_, rfl⟩
    rw [hQe] at hQ ⊢
    have HQ := Lib.hid hQ; clear hQ
    clear hQe hv hsA
    cases hW : (x.cs.toList == [87])
    · go_enter Tryd.func21, Tryd.ntmps21
      go_wp2_with fail
      go_ret
      exact ⟨ret_eq (bool_eq (by first | rfl | simp)), by (repeat (first | (with_reducible assumption) | (with_reducible exact Below.refl _ _) | exact Nat.le_refl _ | exact Below.size (by with_reducible assumption) | (with_reducible refine Below.drew ?_) | (with_reducible refine below_drewN ?_ _) | (with_reducible refine Below.alloc ?_ ?_ _) | (with_reducible refine Below.setCell ?_ ?_ _) | (with_reducible refine le_alloc ?_ _) | (with_reducible refine le_set ?_ _ _) | (with_reducible refine le_drew ?_) | (with_reducible refine le_drewN ?_ _) | omega | (dsimp only; omega)))⟩
    · go_enter Tryd.func21, Tryd.ntmps21
      go_wp2_with fail
      refine (HQ.out).mono ?_
      rintro e w1 ⟨rfl, hb1⟩
      go_wp2_with fail
      go_ret
      exact ⟨ret_eq (bool_eq (by simp)), hbA.trans (hb1.mono hbA.size)⟩
  · have hv : fitR 8 x = ((x.cs.toList == [87]) && safeB x) := rfl
    rw [hv]
    have hbA : Below w.heap.size w (w.alloc (.cells #[] 2)) := by (repeat (first | (with_reducible assumption) | (with_reducible exact Below.refl _ _) | exact Nat.le_refl _ | exact Below.size (by with_reducible assumption) | (with_reducible refine Below.drew ?_) | (with_reducible refine below_drewN ?_ _) | (with_reducible refine Below.alloc ?_ ?_ _) | (with_reducible refine Below.setCell ?_ ?_ _) | (with_reducible refine le_alloc ?_ _) | (with_reducible refine le_set ?_ _ _) | (with_reducible refine le_drew ?_) | (with_reducible refine le_drewN ?_ _) | omega | (dsimp only; omega)))
    have hsA : Sl (w.alloc (.cells #[] 2)) (w.alloc (.cells #[] 2)).heap.size 1 (some ⟨w.heap.size, 0, none⟩) 0 (([] : List Int).flatMap intC) := by
      rw [show (w.alloc (.cells #[] 2)).heap.size = w.heap.size + 1 by simp]
      exact Sl.new w 2 [] 0 1 rfl
    have hQ := l11Rhythm_c b off A n c x 5 100 (some ⟨w.heap.size, 0, none⟩) 0 0 [] _ (h.next hbA) hsA (by decide)
    rw [decide_eq_false (show ¬ (100 : Int) < 0 by decide), Bool.false_or] at hQ
    obtain ⟨Q, hQe⟩ : ∃ Q, (x.k == 5 && (decide (x.gs = []) && x.p == 100)) = Q := ⟨_, rfl⟩
    have hs : safeB x = (x.k == 3 || (x.k == 2 || (Q || (x.k == 8 && x.l.toList == [65])))) := by rw [safeB, hQe]
    rw [hQe] at hQ
    rw [hs]
    have HQ := Lib.hid hQ; clear hQ
    have HSf := Lib.hid hs; clear hs
    clear hQe hv hsA
    cases hW : (x.cs.toList == [87])
    · go_enter Tryd.func21, Tryd.ntmps21
      go_wp2_with fail
      go_ret
      exact ⟨ret_eq (bool_eq (by first | rfl | simp)), by (repeat (first | (with_reducible assumption) | (with_reducible exact Below.refl _ _) | exact Nat.le_refl _ | exact Below.size (by with_reducible assumption) | (with_reducible refine Below.drew ?_) | (with_reducible refine below_drewN ?_ _) | (with_reducible refine Below.alloc ?_ ?_ _) | (with_reducible refine Below.setCell ?_ ?_ _) | (with_reducible refine le_alloc ?_ _) | (with_reducible refine le_set ?_ _ _) | (with_reducible refine le_drew ?_) | (with_reducible refine le_drewN ?_ _) | omega | (dsimp only; omega)))⟩
    · cases h3 : (x.k == 3)
      · cases h2 : (x.k == 2)
        · go_enter Tryd.func21, Tryd.ntmps21
          go_wp2_with fail
          refine (HQ.out).mono ?_
          rintro e w1 ⟨rfl, hb1⟩
          have r1 := keepC (hbA.trans (hb1.mono hbA.size)) b hb
          cases Q
          · cases h8 : (x.k == 8)
            · go_wp2_with fail
              go_ret
              exact ⟨ret_eq (bool_eq (by first | (rw [h8]; simp; done) | (simp [h8]; done) | (simp_all; done))), hbA.trans (hb1.mono hbA.size)⟩
            · go_wp2_with fail
              go_ret
              exact ⟨ret_eq (bool_eq (by first | (rw [h8]; simp; done) | (simp [h8]; done) | (simp_all; done))), hbA.trans (hb1.mono hbA.size)⟩
          · go_wp2_with fail
            go_ret
            exact ⟨ret_eq (bool_eq (by simp)), hbA.trans (hb1.mono hbA.size)⟩
        · go_enter Tryd.func21, Tryd.ntmps21
          go_wp2_with fail
          go_ret
          exact ⟨ret_eq (bool_eq (by first | rfl | simp)), by (repeat (first | (with_reducible assumption) | (with_reducible exact Below.refl _ _) | exact Nat.le_refl _ | exact Below.size (by with_reducible assumption) | (with_reducible refine Below.drew ?_) | (with_reducible refine below_drewN ?_ _) | (with_reducible refine Below.alloc ?_ ?_ _) | (with_reducible refine Below.setCell ?_ ?_ _) | (with_reducible refine le_alloc ?_ _) | (with_reducible refine le_set ?_ _ _) | (with_reducible refine le_drew ?_) | (with_reducible refine le_drewN ?_ _) | omega | (dsimp only; omega)))⟩
      · go_enter Tryd.func21, Tryd.ntmps21
        go_wp2_with fail
        go_ret
        exact ⟨ret_eq (bool_eq (by first | rfl | simp)), by (repeat (first | (with_reducible assumption) | (with_reducible exact Below.refl _ _) | exact Nat.le_refl _ | exact Below.size (by with_reducible assumption) | (with_reducible refine Below.drew ?_) | (with_reducible refine below_drewN ?_ _) | (with_reducible refine Below.alloc ?_ ?_ _) | (with_reducible refine Below.setCell ?_ ?_ _) | (with_reducible refine le_alloc ?_ _) | (with_reducible refine le_set ?_ _ _) | (with_reducible refine le_drew ?_) | (with_reducible refine le_drewN ?_ _) | omega | (dsimp only; omega)))⟩
  · have hv : fitR 9 x = (x.cs.toList == [89]) := rfl
    rw [hv]
    go_enter Tryd.func21, Tryd.ntmps21
    go_wp2_with fail
    go_ret
    exact ⟨ret_eq (bool_eq (by first | rfl | simp)), by (repeat (first | (with_reducible assumption) | (with_reducible exact Below.refl _ _) | exact Nat.le_refl _ | exact Below.size (by with_reducible assumption) | (with_reducible refine Below.drew ?_) | (with_reducible refine below_drewN ?_ _) | (with_reducible refine Below.alloc ?_ ?_ _) | (with_reducible refine Below.setCell ?_ ?_ _) | (with_reducible refine le_alloc ?_ _) | (with_reducible refine le_set ?_ _ _) | (with_reducible refine le_drew ?_) | (with_reducible refine le_drewN ?_ _) | omega | (dsimp only; omega)))⟩
set_option maxRecDepth 100000 in
set_option maxHeartbeats 1000000 in
theorem specRhythm_c (k : Int) (A : Option Addr) (n c : Nat) (x : Ch) (w : World) (sl : Sl w w.heap.size 1 A n (x.gs.flatMap intC)) (hn : n ≤ 1048576) (hlz : x.l.size ≤ 1048576) (hs : x.cs.size ≤ 1048576) :
    Calls Tryd.prog 10 #[.int .i64 k, chV x.k A n c x.l x.cs x.p] w fun e w' => e = .returned (.bool (rhyB k x)) ∧ Below w.heap.size w w' := by
  have hb0 : Below w.heap.size w (w.alloc (chOT A n c x 27)) := by (repeat (first | (with_reducible assumption) | (with_reducible exact Below.refl _ _) | exact Nat.le_refl _ | exact Below.size (by with_reducible assumption) | (with_reducible refine Below.drew ?_) | (with_reducible refine below_drewN ?_ _) | (with_reducible refine Below.alloc ?_ ?_ _) | (with_reducible refine Below.setCell ?_ ?_ _) | (with_reducible refine le_alloc ?_ _) | (with_reducible refine le_set ?_ _ _) | (with_reducible refine le_drew ?_) | (with_reducible refine le_drewN ?_ _) | omega | (dsimp only; omega)))
  have hp := chp_box (c := c) 27 sl hn hlz hs
  obtain ⟨w0, hw⟩ : ∃ w0, w.alloc (chOT A n c x 27) = w0 := ⟨_, rfl⟩
  rw [hw] at hb0 hp
  have hO := l05Ok_c w.heap.size 0 A n c x w0 hp
  have hT : ∀ w1, Below w0.heap.size w0 w1 → inB k 0 9 = true → Calls Tryd.prog 21 #[.int .i64 k, .pointer (some ⟨w.heap.size, 0, none⟩)] w1 fun e w' => e = .returned (.bool (fitR k x)) ∧ Below w1.heap.size w1 w' := fun w1 hb hk => l11Fits_c w.heap.size 0 A n c x k w1 (hp.next hb) hk
  rw [rhyB]
  obtain ⟨V, hV⟩ : ∃ V, validB x = V := ⟨_, rfl⟩
  obtain ⟨R, hR⟩ : ∃ R, inB k 0 9 = R := ⟨_, rfl⟩
  obtain ⟨F, hF⟩ : ∃ F, fitR k x = F := ⟨_, rfl⟩
  have hI : ∀ w1, Calls Tryd.prog 20 #[.int .i64 k, .int .i64 0, .int .i64 9] w1 fun e w' => e = .returned (.bool R) ∧ w1 = w' := fun w1 => hR ▸ l00In_c _ _ _ _
  rw [hV] at hO ⊢
  rw [hR] at hT ⊢
  rw [hF] at hT ⊢
  have HO := Lib.hid hO; clear hO
  have HT := Lib.hid hT; clear hT
  have HI := Lib.hid hI; clear hI
  clear hV hR hF hp
  cases R
  · go_enter Tryd.func10, Tryd.ntmps10
    go_wp2_with fail
    refine (HI.out _).mono ?_
    rintro e w1 ⟨rfl, rfl⟩
    go_wp2_with fail
    go_ret
    exact ⟨rfl, by first | exact hb0 | (rw [hw]; exact hb0)⟩
  cases V
  · go_enter Tryd.func10, Tryd.ntmps10
    go_wp2_with fail
    refine (HI.out _).mono ?_
    rintro e w1 ⟨rfl, rfl⟩
    go_wp2_with fail
    try rw [hw]
    refine HO.out.mono ?_
    rintro e w2 ⟨rfl, hb2⟩
    go_wp2_with fail
    go_ret
    exact ⟨rfl, hb0.trans (hb2.mono hb0.size)⟩
  · go_enter Tryd.func10, Tryd.ntmps10
    go_wp2_with fail
    refine (HI.out _).mono ?_
    rintro e w1 ⟨rfl, rfl⟩
    go_wp2_with fail
    try rw [hw]
    refine HO.out.mono ?_
    rintro e w2 ⟨rfl, hb2⟩
    go_wp2_with fail
    refine (HT.out _ hb2 (by trivial)).mono ?_
    rintro e w3 ⟨rfl, hb3⟩
    go_wp2_with fail
    go_ret
    exact ⟨rfl, hb0.trans ((hb2.trans (hb3.mono hb2.size)).mono hb0.size)⟩
end Go.Proofs.YtomjdkjkdmieaaaDoor
