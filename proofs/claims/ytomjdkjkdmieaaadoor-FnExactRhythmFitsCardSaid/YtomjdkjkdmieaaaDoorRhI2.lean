/- Rhythms that fit a mark: the program: the whole. -/
import Derived.Test.YtomjdkjkdmieaaaDoorRhI
namespace Go.Proofs.YtomjdkjkdmieaaaDoor
open Go.RowKit
theorem slR_lit (w : World) (L : List (List UInt8)) (m : Nat) (hm : L.length = m) : Sl (w.alloc (.cells ((L.map kbs).flatMap strC).toArray 9)) (w.alloc (.cells ((L.map kbs).flatMap strC).toArray 9)).heap.size 1 (some ⟨w.heap.size, 0, none⟩) m ((L.map kbs).flatMap strC) := by
  rw [show (w.alloc (.cells ((L.map kbs).flatMap strC).toArray 9)).heap.size = w.heap.size + 1 by simp]
  exact Sl.new w 9 _ m 1 (by rw [flat_len strC 1 strC_len, List.length_map, hm])
set_option maxRecDepth 100000 in
set_option maxHeartbeats 4000000 in
theorem implRhythm_c (k : Int) (A : Option Addr) (n c : Nat) (x : Ch) (w : World) (sl : Sl w w.heap.size 1 A n (x.gs.flatMap intC)) (hn : n ≤ 1048576) (hlz : x.l.size ≤ 1048576) (hs : x.cs.size ≤ 1048576) (ht : Tab10 w) :
    Calls Tryd.prog 11 #[.int .i64 k, chV x.k A n c x.l x.cs x.p] w fun e w' => e = .returned (.bool (validB x && fitI k x)) ∧ Below w.heap.size w w' := by
  have hb0 : Below w.heap.size w (w.alloc (chOT A n c x 27)) := by (repeat (first | (with_reducible assumption) | (with_reducible exact Below.refl _ _) | exact Nat.le_refl _ | exact Below.size (by with_reducible assumption) | (with_reducible refine Below.drew ?_) | (with_reducible refine below_drewN ?_ _) | (with_reducible refine Below.alloc ?_ ?_ _) | (with_reducible refine Below.setCell ?_ ?_ _) | (with_reducible refine le_alloc ?_ _) | (with_reducible refine le_set ?_ _ _) | (with_reducible refine le_drew ?_) | (with_reducible refine le_drewN ?_ _) | omega | (dsimp only; omega)))
  obtain ⟨c0, c1, c2, c3, c4, hba, -, -, -, -⟩ := chp_box (c := c) 27 sl hn hlz hs
  simp only [Nat.zero_add] at c1 c2 c3 c4
  obtain ⟨w0, hw⟩ : ∃ w0, w.alloc (chOT A n c x 27) = w0 := ⟨_, rfl⟩
  rw [hw] at hb0 c0 c1 c2 c3 c4 hba
  have sl0 := sl.next hb0
  have ht0 := ht.next hb0
  have hO := implValid_c A n c x w0 sl0 hn hlz hs
  obtain ⟨V, hV⟩ : ∃ V, validB x = V := ⟨_, rfl⟩
  rw [hV] at hO ⊢
  have HO := Lib.hid hO; clear hO
  clear hV ht
  cases V
  · rw [Bool.false_and]
    go_enter Tryd.func11, Tryd.ntmps11
    go_wp2_with fail
    try rw [hw]
    clear hw
    refine HO.out.mono ?_
    rintro e w1 ⟨rfl, hb1⟩
    have r1 := keepC hb1 w.heap.size hba
    go_wp2_with fail
    go_ret
    exact ⟨ret_eq (bool_eq (by first | rfl | simp)), hb0.trans (hb1.mono hb0.size)⟩
  rw [Bool.true_and]
  have hcases : (k = 0 ∨ k = 1 ∨ k = 2 ∨ k = 3 ∨ k = 4 ∨ k = 5 ∨ k = 6 ∨ k = 7 ∨ k = 8 ∨ k = 9) ∨ (k ≠ 0 ∧ k ≠ 1 ∧ k ≠ 2 ∧ k ≠ 3 ∧ k ≠ 4 ∧ k ≠ 5 ∧ k ≠ 6 ∧ k ≠ 7 ∧ k ≠ 8 ∧ k ≠ 9) := by omega
  rcases hcases with (rfl | rfl | rfl | rfl | rfl | rfl | rfl | rfl | rfl | rfl) | ⟨k0, k1, k2, k3, k4, k5, k6, k7, k8, k9⟩
  · go_enter Tryd.func11, Tryd.ntmps11
    go_wp2_with fail
    try rw [hw]
    clear hw
    refine HO.out.mono ?_
    rintro e w1 ⟨rfl, hb1⟩
    have r1 := keepC hb1 w.heap.size hba
    go_wp2_with fail
    go_ret
    exact ⟨ret_eq (bool_eq (by first | rfl | simp)), hb0.trans (hb1.mono hb0.size)⟩
  · have hv : fitI 1 x = (x.cs.toList == [82]) := rfl
    rw [hv]
    go_enter Tryd.func11, Tryd.ntmps11
    go_wp2_with fail
    try rw [hw]
    clear hw
    refine HO.out.mono ?_
    rintro e w1 ⟨rfl, hb1⟩
    have r1 := keepC hb1 w.heap.size hba
    go_wp2_with fail
    go_ret
    exact ⟨ret_eq (bool_eq (by first | rfl | simp)), hb0.trans (hb1.mono hb0.size)⟩
  · have hv : fitI 2 x = (x.cs.toList == [71]) := rfl
    rw [hv]
    go_enter Tryd.func11, Tryd.ntmps11
    go_wp2_with fail
    try rw [hw]
    clear hw
    refine HO.out.mono ?_
    rintro e w1 ⟨rfl, hb1⟩
    have r1 := keepC hb1 w.heap.size hba
    go_wp2_with fail
    go_ret
    exact ⟨ret_eq (bool_eq (by first | rfl | simp)), hb0.trans (hb1.mono hb0.size)⟩
  · have hv : fitI 3 x = oneT tx3 x := rfl
    rw [hv]
    have hOne : ∀ w1, Below w0.heap.size w0 w1 → Calls Tryd.prog 22 #[chV x.k A n c x.l x.cs x.p, .slice (some ⟨w1.heap.size, 0, none⟩) 2 2] (w1.alloc (.cells ((tx3.map kbs).flatMap strC).toArray 9)) fun e w' => e = .returned (.bool (oneT tx3 x)) ∧ Below w1.heap.size w1 w' := fun w1 hb => by
      have hba : Below w1.heap.size w1 (w1.alloc (.cells ((tx3.map kbs).flatMap strC).toArray 9)) := by (repeat (first | (with_reducible assumption) | (with_reducible exact Below.refl _ _) | exact Nat.le_refl _ | exact Below.size (by with_reducible assumption) | (with_reducible refine Below.drew ?_) | (with_reducible refine below_drewN ?_ _) | (with_reducible refine Below.alloc ?_ ?_ _) | (with_reducible refine Below.setCell ?_ ?_ _) | (with_reducible refine le_alloc ?_ _) | (with_reducible refine le_set ?_ _ _) | (with_reducible refine le_drew ?_) | (with_reducible refine le_drewN ?_ _) | omega | (dsimp only; omega)))
      refine (isOneOf_c A n c _ 2 2 (tx3.map kbs) x _ ((sl0.next hb).next hba) hn hlz hs (slR_lit w1 tx3 2 rfl) (by decide) ((ht0.next hb).next hba)).mono ?_
      rintro e w' ⟨he, hb'⟩
      exact ⟨he, hba.trans (hb'.mono hba.size)⟩
    obtain ⟨O, hO1⟩ : ∃ O, oneT tx3 x = O := ⟨_, rfl⟩
    rw [hO1] at hOne
    have HOne := Lib.hid hOne; clear hOne
    rw [hO1]
    have HO1 := Lib.hid hO1; clear hO1
    go_enter Tryd.func11, Tryd.ntmps11
    go_wp2_with fail
    try rw [hw]
    clear hw
    refine HO.out.mono ?_
    rintro e w1 ⟨rfl, hb1⟩
    have r1 := keepC hb1 w.heap.size hba
    go_wp2_with fail
    refine (HOne.out _ hb1).mono ?_
    rintro e w2 ⟨rfl, hb2⟩
    go_wp2_with fail
    go_ret
    exact ⟨ret_eq (bool_eq (by first | rfl | simp)), hb0.trans ((hb1.trans (hb2.mono hb1.size)).mono hb0.size)⟩
  · have hv : fitI 4 x = oneT tx4 x := rfl
    rw [hv]
    have hOne : ∀ w1, Below w0.heap.size w0 w1 → Calls Tryd.prog 22 #[chV x.k A n c x.l x.cs x.p, .slice (some ⟨w1.heap.size, 0, none⟩) 2 2] (w1.alloc (.cells ((tx4.map kbs).flatMap strC).toArray 9)) fun e w' => e = .returned (.bool (oneT tx4 x)) ∧ Below w1.heap.size w1 w' := fun w1 hb => by
      have hba : Below w1.heap.size w1 (w1.alloc (.cells ((tx4.map kbs).flatMap strC).toArray 9)) := by (repeat (first | (with_reducible assumption) | (with_reducible exact Below.refl _ _) | exact Nat.le_refl _ | exact Below.size (by with_reducible assumption) | (with_reducible refine Below.drew ?_) | (with_reducible refine below_drewN ?_ _) | (with_reducible refine Below.alloc ?_ ?_ _) | (with_reducible refine Below.setCell ?_ ?_ _) | (with_reducible refine le_alloc ?_ _) | (with_reducible refine le_set ?_ _ _) | (with_reducible refine le_drew ?_) | (with_reducible refine le_drewN ?_ _) | omega | (dsimp only; omega)))
      refine (isOneOf_c A n c _ 2 2 (tx4.map kbs) x _ ((sl0.next hb).next hba) hn hlz hs (slR_lit w1 tx4 2 rfl) (by decide) ((ht0.next hb).next hba)).mono ?_
      rintro e w' ⟨he, hb'⟩
      exact ⟨he, hba.trans (hb'.mono hba.size)⟩
    obtain ⟨O, hO1⟩ : ∃ O, oneT tx4 x = O := ⟨_, rfl⟩
    rw [hO1] at hOne
    have HOne := Lib.hid hOne; clear hOne
    rw [hO1]
    have HO1 := Lib.hid hO1; clear hO1
    go_enter Tryd.func11, Tryd.ntmps11
    go_wp2_with fail
    try rw [hw]
    clear hw
    refine HO.out.mono ?_
    rintro e w1 ⟨rfl, hb1⟩
    have r1 := keepC hb1 w.heap.size hba
    go_wp2_with fail
    refine (HOne.out _ hb1).mono ?_
    rintro e w2 ⟨rfl, hb2⟩
    go_wp2_with fail
    go_ret
    exact ⟨ret_eq (bool_eq (by first | rfl | simp)), hb0.trans ((hb1.trans (hb2.mono hb1.size)).mono hb0.size)⟩
  · have hv : fitI 5 x = oneT tx5 x := rfl
    rw [hv]
    have hOne : ∀ w1, Below w0.heap.size w0 w1 → Calls Tryd.prog 22 #[chV x.k A n c x.l x.cs x.p, .slice (some ⟨w1.heap.size, 0, none⟩) 2 2] (w1.alloc (.cells ((tx5.map kbs).flatMap strC).toArray 9)) fun e w' => e = .returned (.bool (oneT tx5 x)) ∧ Below w1.heap.size w1 w' := fun w1 hb => by
      have hba : Below w1.heap.size w1 (w1.alloc (.cells ((tx5.map kbs).flatMap strC).toArray 9)) := by (repeat (first | (with_reducible assumption) | (with_reducible exact Below.refl _ _) | exact Nat.le_refl _ | exact Below.size (by with_reducible assumption) | (with_reducible refine Below.drew ?_) | (with_reducible refine below_drewN ?_ _) | (with_reducible refine Below.alloc ?_ ?_ _) | (with_reducible refine Below.setCell ?_ ?_ _) | (with_reducible refine le_alloc ?_ _) | (with_reducible refine le_set ?_ _ _) | (with_reducible refine le_drew ?_) | (with_reducible refine le_drewN ?_ _) | omega | (dsimp only; omega)))
      refine (isOneOf_c A n c _ 2 2 (tx5.map kbs) x _ ((sl0.next hb).next hba) hn hlz hs (slR_lit w1 tx5 2 rfl) (by decide) ((ht0.next hb).next hba)).mono ?_
      rintro e w' ⟨he, hb'⟩
      exact ⟨he, hba.trans (hb'.mono hba.size)⟩
    obtain ⟨O, hO1⟩ : ∃ O, oneT tx5 x = O := ⟨_, rfl⟩
    rw [hO1] at hOne
    have HOne := Lib.hid hOne; clear hOne
    rw [hO1]
    have HO1 := Lib.hid hO1; clear hO1
    go_enter Tryd.func11, Tryd.ntmps11
    go_wp2_with fail
    try rw [hw]
    clear hw
    refine HO.out.mono ?_
    rintro e w1 ⟨rfl, hb1⟩
    have r1 := keepC hb1 w.heap.size hba
    go_wp2_with fail
    refine (HOne.out _ hb1).mono ?_
    rintro e w2 ⟨rfl, hb2⟩
    go_wp2_with fail
    go_ret
    exact ⟨ret_eq (bool_eq (by first | rfl | simp)), hb0.trans ((hb1.trans (hb2.mono hb1.size)).mono hb0.size)⟩
  · have hv : fitI 6 x = oneT tx6 x := rfl
    rw [hv]
    have hOne : ∀ w1, Below w0.heap.size w0 w1 → Calls Tryd.prog 22 #[chV x.k A n c x.l x.cs x.p, .slice (some ⟨w1.heap.size, 0, none⟩) 2 2] (w1.alloc (.cells ((tx6.map kbs).flatMap strC).toArray 9)) fun e w' => e = .returned (.bool (oneT tx6 x)) ∧ Below w1.heap.size w1 w' := fun w1 hb => by
      have hba : Below w1.heap.size w1 (w1.alloc (.cells ((tx6.map kbs).flatMap strC).toArray 9)) := by (repeat (first | (with_reducible assumption) | (with_reducible exact Below.refl _ _) | exact Nat.le_refl _ | exact Below.size (by with_reducible assumption) | (with_reducible refine Below.drew ?_) | (with_reducible refine below_drewN ?_ _) | (with_reducible refine Below.alloc ?_ ?_ _) | (with_reducible refine Below.setCell ?_ ?_ _) | (with_reducible refine le_alloc ?_ _) | (with_reducible refine le_set ?_ _ _) | (with_reducible refine le_drew ?_) | (with_reducible refine le_drewN ?_ _) | omega | (dsimp only; omega)))
      refine (isOneOf_c A n c _ 2 2 (tx6.map kbs) x _ ((sl0.next hb).next hba) hn hlz hs (slR_lit w1 tx6 2 rfl) (by decide) ((ht0.next hb).next hba)).mono ?_
      rintro e w' ⟨he, hb'⟩
      exact ⟨he, hba.trans (hb'.mono hba.size)⟩
    obtain ⟨O, hO1⟩ : ∃ O, oneT tx6 x = O := ⟨_, rfl⟩
    rw [hO1] at hOne
    have HOne := Lib.hid hOne; clear hOne
    rw [hO1]
    have HO1 := Lib.hid hO1; clear hO1
    go_enter Tryd.func11, Tryd.ntmps11
    go_wp2_with fail
    try rw [hw]
    clear hw
    refine HO.out.mono ?_
    rintro e w1 ⟨rfl, hb1⟩
    have r1 := keepC hb1 w.heap.size hba
    go_wp2_with fail
    refine (HOne.out _ hb1).mono ?_
    rintro e w2 ⟨rfl, hb2⟩
    go_wp2_with fail
    go_ret
    exact ⟨ret_eq (bool_eq (by first | rfl | simp)), hb0.trans ((hb1.trans (hb2.mono hb1.size)).mono hb0.size)⟩
  · have hv : fitI 7 x = ((x.cs.toList == [87]) && (x.k == 4 && decide (x.gs = [2]))) := rfl
    rw [hv]
    obtain ⟨G, hG⟩ : ∃ G, decide (x.gs = [2]) = G := ⟨_, rfl⟩
    rw [hG]
    have hE : ∀ w1, Below w0.heap.size w0 w1 → Calls Tryd.prog 23 #[.slice A n c, .slice (some ⟨w1.heap.size, 0, none⟩) 1 1] (w1.alloc (.cells #[.int .i64 2] 2)) fun e w' => e = .returned (.bool G) ∧ Below w1.heap.size w1 w' := fun w1 hb => by
      have hba : Below w1.heap.size w1 (w1.alloc (.cells #[.int .i64 2] 2)) := by (repeat (first | (with_reducible assumption) | (with_reducible exact Below.refl _ _) | exact Nat.le_refl _ | exact Below.size (by with_reducible assumption) | (with_reducible refine Below.drew ?_) | (with_reducible refine below_drewN ?_ _) | (with_reducible refine Below.alloc ?_ ?_ _) | (with_reducible refine Below.setCell ?_ ?_ _) | (with_reducible refine le_alloc ?_ _) | (with_reducible refine le_set ?_ _ _) | (with_reducible refine le_drew ?_) | (with_reducible refine le_drewN ?_ _) | omega | (dsimp only; omega)))
      have hsA : Sl (w1.alloc (.cells #[.int .i64 2] 2)) (w1.alloc (.cells #[.int .i64 2] 2)).heap.size 1 (some ⟨w1.heap.size, 0, none⟩) 1 (([2] : List Int).flatMap intC) := by
        rw [show (w1.alloc (.cells #[.int .i64 2] 2)).heap.size = w1.heap.size + 1 by simp]
        exact Sl.new w1 2 (intC 2) 1 1 rfl
      refine (equalInt_c A _ n 1 c 1 x.gs [2] _ ((sl0.next hb).next hba) hsA (by unfold maxLen; omega) (by decide)).mono ?_
      rw [hG]
      rintro e w' ⟨he, hb'⟩
      exact ⟨he, hba.trans (hb'.mono hba.size)⟩
    have HE := Lib.hid hE; clear hE
    clear hG
    cases hW : (x.cs.toList == [87])
    · go_enter Tryd.func11, Tryd.ntmps11
      go_wp2_with fail
      try rw [hw]
      clear hw
      refine HO.out.mono ?_
      rintro e w1 ⟨rfl, hb1⟩
      have r1 := keepC hb1 w.heap.size hba
      go_wp2_with fail
      go_ret
      exact ⟨ret_eq (bool_eq (by first | rfl | simp)), hb0.trans (hb1.mono hb0.size)⟩
    · cases h4 : (x.k == 4)
      · go_enter Tryd.func11, Tryd.ntmps11
        go_wp2_with fail
        try rw [hw]
        clear hw
        refine HO.out.mono ?_
        rintro e w1 ⟨rfl, hb1⟩
        have r1 := keepC hb1 w.heap.size hba
        go_wp2_with fail
        go_ret
        exact ⟨ret_eq (bool_eq (by first | rfl | simp)), hb0.trans (hb1.mono hb0.size)⟩
      · go_enter Tryd.func11, Tryd.ntmps11
        go_wp2_with fail
        try rw [hw]
        clear hw
        refine HO.out.mono ?_
        rintro e w1 ⟨rfl, hb1⟩
        have r1 := keepC hb1 w.heap.size hba
        go_wp2_with fail
        refine (HE.out _ hb1).mono ?_
        rintro e w2 ⟨rfl, hb2⟩
        go_wp2_with fail
        go_ret
        exact ⟨ret_eq (bool_eq (by first | rfl | simp)), hb0.trans ((hb1.trans (hb2.mono hb1.size)).mono hb0.size)⟩
  · have hv : fitI 8 x = ((x.cs.toList == [87]) && (x.k == 3 || (x.k == 2 || (oneT tx8 x || (x.k == 8 && x.l.toList == [65]))))) := rfl
    rw [hv]
    have hOne : ∀ w1, Below w0.heap.size w0 w1 → Calls Tryd.prog 22 #[chV x.k A n c x.l x.cs x.p, .slice (some ⟨w1.heap.size, 0, none⟩) 1 1] (w1.alloc (.cells ((tx8.map kbs).flatMap strC).toArray 9)) fun e w' => e = .returned (.bool (oneT tx8 x)) ∧ Below w1.heap.size w1 w' := fun w1 hb => by
      have hba : Below w1.heap.size w1 (w1.alloc (.cells ((tx8.map kbs).flatMap strC).toArray 9)) := by (repeat (first | (with_reducible assumption) | (with_reducible exact Below.refl _ _) | exact Nat.le_refl _ | exact Below.size (by with_reducible assumption) | (with_reducible refine Below.drew ?_) | (with_reducible refine below_drewN ?_ _) | (with_reducible refine Below.alloc ?_ ?_ _) | (with_reducible refine Below.setCell ?_ ?_ _) | (with_reducible refine le_alloc ?_ _) | (with_reducible refine le_set ?_ _ _) | (with_reducible refine le_drew ?_) | (with_reducible refine le_drewN ?_ _) | omega | (dsimp only; omega)))
      refine (isOneOf_c A n c _ 1 1 (tx8.map kbs) x _ ((sl0.next hb).next hba) hn hlz hs (slR_lit w1 tx8 1 rfl) (by decide) ((ht0.next hb).next hba)).mono ?_
      rintro e w' ⟨he, hb'⟩
      exact ⟨he, hba.trans (hb'.mono hba.size)⟩
    obtain ⟨O, hO1⟩ : ∃ O, oneT tx8 x = O := ⟨_, rfl⟩
    rw [hO1] at hOne
    have HOne := Lib.hid hOne; clear hOne
    rw [hO1]
    have HO1 := Lib.hid hO1; clear hO1
    cases hW : (x.cs.toList == [87])
    · go_enter Tryd.func11, Tryd.ntmps11
      go_wp2_with fail
      try rw [hw]
      clear hw
      refine HO.out.mono ?_
      rintro e w1 ⟨rfl, hb1⟩
      have r1 := keepC hb1 w.heap.size hba
      go_wp2_with fail
      go_ret
      exact ⟨ret_eq (bool_eq (by first | rfl | simp)), hb0.trans (hb1.mono hb0.size)⟩
    · cases h3 : (x.k == 3)
      · cases h2 : (x.k == 2)
        · go_enter Tryd.func11, Tryd.ntmps11
          go_wp2_with fail
          try rw [hw]
          clear hw
          refine HO.out.mono ?_
          rintro e w1 ⟨rfl, hb1⟩
          have r1 := keepC hb1 w.heap.size hba
          go_wp2_with fail
          refine (HOne.out _ hb1).mono ?_
          rintro e w2 ⟨rfl, hb2⟩
          have r2 := keepC (hb1.trans (hb2.mono hb1.size)) w.heap.size hba
          clear r1
          cases O
          · cases h8 : (x.k == 8)
            · go_wp2_with fail
              go_ret
              exact ⟨ret_eq (bool_eq (by first | (rw [h8]; simp; done) | (simp [h8]; done) | (simp_all; done))), hb0.trans ((hb1.trans (hb2.mono hb1.size)).mono hb0.size)⟩
            · go_wp2_with fail
              go_ret
              exact ⟨ret_eq (bool_eq (by first | (rw [h8]; simp; done) | (simp [h8]; done) | (simp_all; done))), hb0.trans ((hb1.trans (hb2.mono hb1.size)).mono hb0.size)⟩
          · go_wp2_with fail
            go_ret
            exact ⟨ret_eq (bool_eq (by first | rfl | simp)), hb0.trans ((hb1.trans (hb2.mono hb1.size)).mono hb0.size)⟩
        · go_enter Tryd.func11, Tryd.ntmps11
          go_wp2_with fail
          try rw [hw]
          clear hw
          refine HO.out.mono ?_
          rintro e w1 ⟨rfl, hb1⟩
          have r1 := keepC hb1 w.heap.size hba
          go_wp2_with fail
          go_ret
          exact ⟨ret_eq (bool_eq (by first | rfl | simp)), hb0.trans (hb1.mono hb0.size)⟩
      · go_enter Tryd.func11, Tryd.ntmps11
        go_wp2_with fail
        try rw [hw]
        clear hw
        refine HO.out.mono ?_
        rintro e w1 ⟨rfl, hb1⟩
        have r1 := keepC hb1 w.heap.size hba
        go_wp2_with fail
        go_ret
        exact ⟨ret_eq (bool_eq (by first | rfl | simp)), hb0.trans (hb1.mono hb0.size)⟩
  · have hv : fitI 9 x = (x.cs.toList == [89]) := rfl
    rw [hv]
    go_enter Tryd.func11, Tryd.ntmps11
    go_wp2_with fail
    try rw [hw]
    clear hw
    refine HO.out.mono ?_
    rintro e w1 ⟨rfl, hb1⟩
    have r1 := keepC hb1 w.heap.size hba
    go_wp2_with fail
    go_ret
    exact ⟨ret_eq (bool_eq (by first | rfl | simp)), hb0.trans (hb1.mono hb0.size)⟩
  · have hv : fitI k x = false := by simp only [fitI, k0, k1, k2, k3, k4, k5, k6, k7, k8, k9, if_false]
    rw [hv]
    go_enter Tryd.func11, Tryd.ntmps11
    go_wp2_with fail
    try rw [hw]
    clear hw
    refine HO.out.mono ?_
    rintro e w1 ⟨rfl, hb1⟩
    have r1 := keepC hb1 w.heap.size hba
    go_wp2_with fail
    go_ret
    exact ⟨ret_eq (bool_eq (by first | rfl | simp)), hb0.trans (hb1.mono hb0.size)⟩
end Go.Proofs.YtomjdkjkdmieaaaDoor
