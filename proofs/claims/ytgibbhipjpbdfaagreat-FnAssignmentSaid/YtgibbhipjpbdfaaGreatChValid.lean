
/- Characters: valid ones. -/
import Derived.Test.YtgibbhipjpbdfaaGreatChImpl6
namespace Go.Proofs.YtgibbhipjpbdfaaGreat
open Go.RowKit
def evenB (p : Int) : Bool := p.tmod 2 == 0
def validB (x : Ch) : Bool := shapeB x && (if steadyB x = true then x.p == 0 else inB x.p (leastI x) 600 && (!(x.k == 3) || evenB x.p))
set_option maxRecDepth 100000 in
set_option maxHeartbeats 1000000 in
theorem implValid_c (A : Option Addr) (n c : Nat) (x : Ch) (w : World) (sl : Sl w w.heap.size 1 A n (x.gs.flatMap intC)) (hn : n ≤ 1048576) (hlz : x.l.size ≤ 1048576) (hs : x.cs.size ≤ 1048576) :
    Calls Tryz.prog 45 #[chV x.k A n c x.l x.cs x.p] w fun e w' => e = .returned (.bool (validB x)) ∧ Below w.heap.size w w' := by
  have hb0 : Below w.heap.size w (w.alloc (.cells #[.int .i64 x.k, .slice A n c, .string x.l, .string x.cs, .int .i64 x.p] 60)) := by (repeat (first | (with_reducible assumption) | (with_reducible exact Below.refl _ _) | exact Nat.le_refl _ | exact Below.size (by with_reducible assumption) | (with_reducible refine Below.drew ?_) | (with_reducible refine below_drewN ?_ _) | (with_reducible refine Below.alloc ?_ ?_ _) | (with_reducible refine Below.setCell ?_ ?_ _) | (with_reducible refine le_alloc ?_ _) | (with_reducible refine le_set ?_ _ _) | (with_reducible refine le_drew ?_) | (with_reducible refine le_drewN ?_ _) | omega | (dsimp only; omega)))
  have sl0 := sl.next hb0
  cases hcs : colorsB x.cs
  · have hv : validB x = false := by rw [validB, shapeB, hcs]; rfl
    rw [hv]
    have Hv := Lib.hid hv; clear hv
    go_enter Tryz.func45, Tryz.ntmps45
    go_wp2_with (first | (go_at_call 59; refine (areCharacterColors_c _ _ (by unfold maxLen; omega)).mono ?_; rintro e w1 ⟨rfl, rfl⟩) | (go_at_call 60; refine (fits_c A n c x _ sl0 hn hlz hs).mono ?_; rintro e w1 ⟨rfl, hb1⟩; have q1 := keepC hb1 w.heap.size (by simp); have sl1 := sl0.next hb1; have hbw1 := hb0.trans (hb1.mono (by simp))) | (go_at_call 61; refine (isSteady_c A n c x _ sl1 hn hlz hs).mono ?_; rintro e w2 ⟨rfl, hb2⟩; have q2 := keepC hb2 w.heap.size (Nat.lt_of_lt_of_le (by simp) hb1.size); have sl2 := sl1.next hb2; have hbw2 := hbw1.trans (hb2.mono hbw1.size)))
    go_ret
    exact ⟨rfl, hb0⟩
  cases hf : fitsB x
  · have hv : validB x = false := by rw [validB, shapeB, hcs, hf]; rfl
    rw [hv]
    have Hv := Lib.hid hv; clear hv
    go_enter Tryz.func45, Tryz.ntmps45
    go_wp2_with (first | (go_at_call 59; refine (areCharacterColors_c _ _ (by unfold maxLen; omega)).mono ?_; rintro e w1 ⟨rfl, rfl⟩) | (go_at_call 60; refine (fits_c A n c x _ sl0 hn hlz hs).mono ?_; rintro e w1 ⟨rfl, hb1⟩; have q1 := keepC hb1 w.heap.size (by simp); have sl1 := sl0.next hb1; have hbw1 := hb0.trans (hb1.mono (by simp))) | (go_at_call 61; refine (isSteady_c A n c x _ sl1 hn hlz hs).mono ?_; rintro e w2 ⟨rfl, hb2⟩; have q2 := keepC hb2 w.heap.size (Nat.lt_of_lt_of_le (by simp) hb1.size); have sl2 := sl1.next hb2; have hbw2 := hbw1.trans (hb2.mono hbw1.size)))
    go_ret
    exact ⟨rfl, hbw1⟩
  have hsh : shapeB x = true := by rw [shapeB, hcs, hf]; rfl
  cases hst : steadyB x
  · obtain ⟨m, hle⟩ : ∃ m, leastI x = m := ⟨_, rfl⟩
    have hv : validB x = (inB x.p m 600 && (!(x.k == 3) || evenB x.p)) := by rw [validB, hsh, hst, ← hle]; rfl
    rw [hv]
    have Hv := Lib.hid hv; clear hv
    have hL : ∀ w1, Sl w1 w1.heap.size 1 A n (x.gs.flatMap intC) → Calls Tryz.prog 62 #[chV x.k A n c x.l x.cs x.p] w1 fun e w' => e = .returned (.int .i64 m) ∧ Below w1.heap.size w1 w' := fun w1 hh => hle ▸ leastPeriod_c A n c x w1 hh hn hlz hs hsh
    have HL := Lib.hid hL; clear hL
    have Hle := Lib.hid hle; clear hle
    have Hsh := Lib.hid hsh; clear hsh
    cases hin : inB x.p m 600
    all_goals
      cases hk3 : (x.k == 3)
    all_goals
      have hk3' : (x.k != 3) = !(x.k == 3) := rfl
      rw [hk3] at hk3'
      simp only [Bool.not_true, Bool.not_false] at hk3'
      go_enter Tryz.func45, Tryz.ntmps45
      go_wp2_with (first | (go_at_call 59; refine (areCharacterColors_c _ _ (by unfold maxLen; omega)).mono ?_; rintro e w1 ⟨rfl, rfl⟩) | (go_at_call 60; refine (fits_c A n c x _ sl0 hn hlz hs).mono ?_; rintro e w1 ⟨rfl, hb1⟩; have q1 := keepC hb1 w.heap.size (by simp); have sl1 := sl0.next hb1; have hbw1 := hb0.trans (hb1.mono (by simp))) | (go_at_call 61; refine (isSteady_c A n c x _ sl1 hn hlz hs).mono ?_; rintro e w2 ⟨rfl, hb2⟩; have q2 := keepC hb2 w.heap.size (Nat.lt_of_lt_of_le (by simp) hb1.size); have sl2 := sl1.next hb2; have hbw2 := hbw1.trans (hb2.mono hbw1.size)))
      have z2 : w.heap.size < w2.heap.size := Nat.lt_of_lt_of_le (by simp) (Nat.le_trans hb1.size hb2.size)
      have e1 : ∀ {w' : World}, Below w2.heap.size w2 w' → (Below w2.heap.size w2 w' ∧ (∀ x, w'.cell? ⟨w.heap.size, x, none⟩ = w2.cell? ⟨w.heap.size, x, none⟩)) := fun hb => ⟨hb, keepC hb _ z2⟩
      refine wp_region_held_drew (S := fun w' => Below w2.heap.size w2 w' ∧ (∀ x, w'.cell? ⟨w.heap.size, x, none⟩ = w2.cell? ⟨w.heap.size, x, none⟩)) (by kernel_rfl) (e1 (Below.refl _ _).drew) (fun hHeld => ?_)
      (first
        | (refine wpAnyH_take (i := 0) (v := ?_) rfl (by kernel_rfl) (by kernel_rfl) (by kernel_rfl) (fun _ _ _ h => h) (Or.inl ⟨by rfl, ?_⟩) (by assumption) ?_
           rotate_left
           focus (intro wq hSq; (try dsimp only at hSq); go_simp; (try (with_reducible rfl)); done))
        | (refine wpAnyH_take (i := 0) (v := undef) rfl (by kernel_rfl) (by kernel_rfl) (by kernel_rfl) (fun _ _ _ h => h) (Or.inr ⟨by rfl, rfl⟩) (by assumption) ?_)
        | fail "take 0")
      try simp only [Act.put, List.setIfInBounds_toArray, List.set_cons_zero, List.set_cons_succ, List.getElem_toArray, List.getElem_cons_zero]
      (first
        | (refine wpAnyH_take (i := 1) (v := ?_) rfl (by kernel_rfl) (by kernel_rfl) (by kernel_rfl) (fun _ _ _ h => h) (Or.inl ⟨by rfl, ?_⟩) (by assumption) ?_
           rotate_left
           focus (intro wq hSq; (try dsimp only at hSq); go_simp; (try (with_reducible rfl)); done))
        | (refine wpAnyH_take (i := 1) (v := undef) rfl (by kernel_rfl) (by kernel_rfl) (by kernel_rfl) (fun _ _ _ h => h) (Or.inr ⟨by rfl, rfl⟩) (by assumption) ?_)
        | fail "take 1")
      try simp only [Act.put, List.setIfInBounds_toArray, List.set_cons_zero, List.set_cons_succ, List.getElem_toArray, List.getElem_cons_zero, List.getElem_cons_succ]
      (first
        | (refine wpAnyH_take (i := 2) (v := ?_) rfl (by kernel_rfl) (by kernel_rfl) (by kernel_rfl) (fun _ _ _ h => h) (Or.inl ⟨by rfl, ?_⟩) (by assumption) ?_
           rotate_left
           focus (intro wq hSq; (try dsimp only at hSq); go_simp; (try (with_reducible rfl)); done))
        | (refine wpAnyH_take (i := 2) (v := undef) rfl (by kernel_rfl) (by kernel_rfl) (by kernel_rfl) (fun _ _ _ h => h) (Or.inr ⟨by rfl, rfl⟩) (by assumption) ?_)
        | fail "take 2")
      try simp only [Act.put, List.setIfInBounds_toArray, List.set_cons_zero, List.set_cons_succ, List.getElem_toArray, List.getElem_cons_zero, List.getElem_cons_succ]
      refine wpAnyH_ready (rs := [3]) (by kernel_rfl) (by simp) ?_
      refine AllReadyH.cons (o := _) rfl (fun K hK => ?_) AllReadyH.nil
      go_simp
      refine (HL.out _ (sl2.next (Below.refl _ _).drew)).mono ?_; rintro e w7 ⟨rfl, hb7⟩
      refine hK.out _ _ ?_ (fun hHeld => ?_)
      · exact e1 ((Below.refl _ _).drew.trans hb7)
      clear hK K
      try simp only [Act.put, List.setIfInBounds_toArray, List.set_cons_zero, List.set_cons_succ, List.getElem_toArray, List.getElem_cons_zero, List.getElem_cons_succ]
      refine wpAnyH_ready (rs := [4]) (by kernel_rfl) (by simp) ?_
      refine AllReadyH.cons (o := _) rfl (fun K hK => ?_) AllReadyH.nil
      go_simp
      refine (within_c _ _ _ _).mono ?_; rintro e w8 ⟨rfl, rfl⟩
      refine hK.out _ _ ?_ (fun hHeld => ?_)
      · exact e1 ((Below.refl _ _).drew.trans hb7)
      clear hK K
      try simp only [Act.put, List.setIfInBounds_toArray, List.set_cons_zero, List.set_cons_succ, List.getElem_toArray, List.getElem_cons_zero, List.getElem_cons_succ]
      (first
        | (refine wpAnyH_take (i := 5) (v := ?_) rfl (by kernel_rfl) (by kernel_rfl) (by kernel_rfl) (fun _ _ _ h => h) (Or.inl ⟨by rfl, ?_⟩) (by assumption) ?_
           rotate_left
           focus (intro wq hSq; (try dsimp only at hSq); go_simp; (try (with_reducible rfl)); done))
        | (refine wpAnyH_take (i := 5) (v := undef) rfl (by kernel_rfl) (by kernel_rfl) (by kernel_rfl) (fun _ _ _ h => h) (Or.inr ⟨by rfl, rfl⟩) (by assumption) ?_)
        | fail "take 5")
      try simp only [Act.put, List.setIfInBounds_toArray, List.set_cons_zero, List.set_cons_succ, List.getElem_toArray, List.getElem_cons_zero, List.getElem_cons_succ]
      (first
        | (refine wpAnyH_take (i := 6) (v := ?_) rfl (by kernel_rfl) (by kernel_rfl) (by kernel_rfl) (fun _ _ _ h => h) (Or.inl ⟨by rfl, ?_⟩) (by assumption) ?_
           rotate_left
           focus (intro wq hSq; (try dsimp only at hSq); go_simp; (try (with_reducible rfl)); done))
        | (refine wpAnyH_take (i := 6) (v := undef) rfl (by kernel_rfl) (by kernel_rfl) (by kernel_rfl) (fun _ _ _ h => h) (Or.inr ⟨by rfl, rfl⟩) (by assumption) ?_)
        | fail "take 6")
      try simp only [Act.put, List.setIfInBounds_toArray, List.set_cons_zero, List.set_cons_succ, List.getElem_toArray, List.getElem_cons_zero, List.getElem_cons_succ]
      (first
        | (refine wpAnyH_take (i := 7) (v := ?_) rfl (by kernel_rfl) (by kernel_rfl) (by kernel_rfl) (fun _ _ _ h => h) (Or.inl ⟨by rfl, ?_⟩) (by assumption) ?_
           rotate_left
           focus (intro wq hSq; (try dsimp only at hSq); go_simp; (try (with_reducible rfl)); done))
        | (refine wpAnyH_take (i := 7) (v := undef) rfl (by kernel_rfl) (by kernel_rfl) (by kernel_rfl) (fun _ _ _ h => h) (Or.inr ⟨by rfl, rfl⟩) (by assumption) ?_)
        | fail "take 7")
      try simp only [Act.put, List.setIfInBounds_toArray, List.set_cons_zero, List.set_cons_succ, List.getElem_toArray, List.getElem_cons_zero, List.getElem_cons_succ]
      (first
        | (refine wpAnyH_take (i := 8) (v := ?_) rfl (by kernel_rfl) (by kernel_rfl) (by kernel_rfl) (fun _ _ _ h => h) (Or.inl ⟨by rfl, ?_⟩) (by assumption) ?_
           rotate_left
           focus (intro wq hSq; (try dsimp only at hSq); go_simp; (try (with_reducible rfl)); done))
        | (refine wpAnyH_take (i := 8) (v := undef) rfl (by kernel_rfl) (by kernel_rfl) (by kernel_rfl) (fun _ _ _ h => h) (Or.inr ⟨by rfl, rfl⟩) (by assumption) ?_)
        | fail "take 8")
      try simp only [Act.put, List.setIfInBounds_toArray, List.set_cons_zero, List.set_cons_succ, List.getElem_toArray, List.getElem_cons_zero, List.getElem_cons_succ]
      (first
        | (refine wpAnyH_take (i := 9) (v := ?_) rfl (by kernel_rfl) (by kernel_rfl) (by kernel_rfl) (fun _ _ _ h => h) (Or.inl ⟨by rfl, ?_⟩) (by assumption) ?_
           rotate_left
           focus (intro wq hSq; (try dsimp only at hSq); go_simp; (try (with_reducible rfl)); done))
        | (refine wpAnyH_take (i := 9) (v := undef) rfl (by kernel_rfl) (by kernel_rfl) (by kernel_rfl) (fun _ _ _ h => h) (Or.inr ⟨by rfl, rfl⟩) (by assumption) ?_)
        | fail "take 9")
      try simp only [Act.put, List.setIfInBounds_toArray, List.set_cons_zero, List.set_cons_succ, List.getElem_toArray, List.getElem_cons_zero, List.getElem_cons_succ]
      (first
        | (refine wpAnyH_take (i := 10) (v := ?_) rfl (by kernel_rfl) (by kernel_rfl) (by kernel_rfl) (fun _ _ _ h => h) (Or.inl ⟨by rfl, ?_⟩) (by assumption) ?_
           rotate_left
           focus (intro wq hSq; (try dsimp only at hSq); go_simp; (try (with_reducible rfl)); done))
        | (refine wpAnyH_take (i := 10) (v := undef) rfl (by kernel_rfl) (by kernel_rfl) (by kernel_rfl) (fun _ _ _ h => h) (Or.inr ⟨by rfl, rfl⟩) (by assumption) ?_)
        | fail "take 10")
      try simp only [Act.put, List.setIfInBounds_toArray, List.set_cons_zero, List.set_cons_succ, List.getElem_toArray, List.getElem_cons_zero, List.getElem_cons_succ]
      (first
        | (refine wpAnyH_take (i := 11) (v := ?_) rfl (by kernel_rfl) (by kernel_rfl) (by kernel_rfl) (fun _ _ _ h => h) (Or.inl ⟨by rfl, ?_⟩) (by assumption) ?_
           rotate_left
           focus (intro wq hSq; (try dsimp only at hSq); go_simp; (try (with_reducible rfl)); done))
        | (refine wpAnyH_take (i := 11) (v := undef) rfl (by kernel_rfl) (by kernel_rfl) (by kernel_rfl) (fun _ _ _ h => h) (Or.inr ⟨by rfl, rfl⟩) (by assumption) ?_)
        | fail "take 11")
      try simp only [Act.put, List.setIfInBounds_toArray, List.set_cons_zero, List.set_cons_succ, List.getElem_toArray, List.getElem_cons_zero, List.getElem_cons_succ]
      (first
        | (refine wpAnyH_take (i := 12) (v := ?_) rfl (by kernel_rfl) (by kernel_rfl) (by kernel_rfl) (fun _ _ _ h => h) (Or.inl ⟨by rfl, ?_⟩) (by assumption) ?_
           rotate_left
           focus (intro wq hSq; (try dsimp only at hSq); go_simp; (try (with_reducible rfl)); done))
        | (refine wpAnyH_take (i := 12) (v := undef) rfl (by kernel_rfl) (by kernel_rfl) (by kernel_rfl) (fun _ _ _ h => h) (Or.inr ⟨by rfl, rfl⟩) (by assumption) ?_)
        | fail "take 12")
      try simp only [Act.put, List.setIfInBounds_toArray, List.set_cons_zero, List.set_cons_succ, List.getElem_toArray, List.getElem_cons_zero, List.getElem_cons_succ]
      (first
        | (refine wpAnyH_take (i := 13) (v := ?_) rfl (by kernel_rfl) (by kernel_rfl) (by kernel_rfl) (fun _ _ _ h => h) (Or.inl ⟨by rfl, ?_⟩) (by assumption) ?_
           rotate_left
           focus (intro wq hSq; (try dsimp only at hSq); go_simp; (try (with_reducible rfl)); done))
        | (refine wpAnyH_take (i := 13) (v := undef) rfl (by kernel_rfl) (by kernel_rfl) (by kernel_rfl) (fun _ _ _ h => h) (Or.inr ⟨by rfl, rfl⟩) (by assumption) ?_)
        | fail "take 13")
      try simp only [Act.put, List.setIfInBounds_toArray, List.set_cons_zero, List.set_cons_succ, List.getElem_toArray, List.getElem_cons_zero, List.getElem_cons_succ]
      (first
        | (refine wpAnyH_take (i := 14) (v := ?_) rfl (by kernel_rfl) (by kernel_rfl) (by kernel_rfl) (fun _ _ _ h => h) (Or.inl ⟨by rfl, ?_⟩) (by assumption) ?_
           rotate_left
           focus (intro wq hSq; (try dsimp only at hSq); go_simp; (try (with_reducible rfl)); done))
        | (refine wpAnyH_take (i := 14) (v := undef) rfl (by kernel_rfl) (by kernel_rfl) (by kernel_rfl) (fun _ _ _ h => h) (Or.inr ⟨by rfl, rfl⟩) (by assumption) ?_)
        | fail "take 14")
      try simp only [Act.put, List.setIfInBounds_toArray, List.set_cons_zero, List.set_cons_succ, List.getElem_toArray, List.getElem_cons_zero, List.getElem_cons_succ]
      (first
        | (refine wpAnyH_take (i := 15) (v := ?_) rfl (by kernel_rfl) (by kernel_rfl) (by kernel_rfl) (fun _ _ _ h => h) (Or.inl ⟨by rfl, ?_⟩) (by assumption) ?_
           rotate_left
           focus (intro wq hSq; (try dsimp only at hSq); go_simp; (try (with_reducible rfl)); done))
        | (refine wpAnyH_take (i := 15) (v := undef) rfl (by kernel_rfl) (by kernel_rfl) (by kernel_rfl) (fun _ _ _ h => h) (Or.inr ⟨by rfl, rfl⟩) (by assumption) ?_)
        | fail "take 15")
      try simp only [Act.put, List.setIfInBounds_toArray, List.set_cons_zero, List.set_cons_succ, List.getElem_toArray, List.getElem_cons_zero, List.getElem_cons_succ]
      (first
        | (refine wpAnyH_take (i := 16) (v := ?_) rfl (by kernel_rfl) (by kernel_rfl) (by kernel_rfl) (fun _ _ _ h => h) (Or.inl ⟨by rfl, ?_⟩) (by assumption) ?_
           rotate_left
           focus (intro wq hSq; (try dsimp only at hSq); go_simp; (try (with_reducible rfl)); done))
        | (refine wpAnyH_take (i := 16) (v := undef) rfl (by kernel_rfl) (by kernel_rfl) (by kernel_rfl) (fun _ _ _ h => h) (Or.inr ⟨by rfl, rfl⟩) (by assumption) ?_)
        | fail "take 16")
      try simp only [Act.put, List.setIfInBounds_toArray, List.set_cons_zero, List.set_cons_succ, List.getElem_toArray, List.getElem_cons_zero, List.getElem_cons_succ]
      refine wpAnyH_done (by kernel_rfl) ?_ _
      have hb8 := (Below.refl w2.heap.size w2).drew.trans hb7
      go_wp2_with fail
      go_ret
      exact ⟨ret_eq (bool_eq (by simp_all [evenB])), hbw2.trans (hb8.mono hbw2.size)⟩
  · have hv : validB x = (x.p == 0) := by rw [validB, hsh, hst]; rfl
    rw [hv]
    have Hv := Lib.hid hv; clear hv
    have Hsh := Lib.hid hsh; clear hsh
    go_enter Tryz.func45, Tryz.ntmps45
    go_wp2_with (first | (go_at_call 59; refine (areCharacterColors_c _ _ (by unfold maxLen; omega)).mono ?_; rintro e w1 ⟨rfl, rfl⟩) | (go_at_call 60; refine (fits_c A n c x _ sl0 hn hlz hs).mono ?_; rintro e w1 ⟨rfl, hb1⟩; have q1 := keepC hb1 w.heap.size (by simp); have sl1 := sl0.next hb1; have hbw1 := hb0.trans (hb1.mono (by simp))) | (go_at_call 61; refine (isSteady_c A n c x _ sl1 hn hlz hs).mono ?_; rintro e w2 ⟨rfl, hb2⟩; have q2 := keepC hb2 w.heap.size (Nat.lt_of_lt_of_le (by simp) hb1.size); have sl2 := sl1.next hb2; have hbw2 := hbw1.trans (hb2.mono hbw1.size)))
    go_ret
    exact ⟨rfl, hbw2⟩
end Go.Proofs.YtgibbhipjpbdfaaGreat
