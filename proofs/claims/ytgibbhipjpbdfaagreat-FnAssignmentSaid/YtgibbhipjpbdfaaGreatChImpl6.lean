
/- Characters: the program's least period. -/
import Derived.Test.YtgibbhipjpbdfaaGreatChImpl5
namespace Go.Proofs.YtgibbhipjpbdfaaGreat
open Go.RowKit
theorem shape_GK {x : Ch} (h : shapeB x = true) (h1 : steadyB x = false) (h3 : x.k ≠ 3) : x.k = 8 ∨ GK x.k := by
  have hf : fitsB x = true := by simp [shapeB] at h; exact h.2
  unfold GK
  by_cases k8 : x.k = 8
  · exact .inl k8
  · right
    have k1 : x.k ≠ 1 := fun e => by simp [steadyB, e] at h1
    unfold fitsB at hf
    by_cases a2 : x.k = 2 ∨ x.k = 4 ∨ x.k = 5
    · omega
    · by_cases a6 : x.k = 6 ∨ x.k = 7
      · omega
      · rw [if_neg (by omega), if_neg a2, if_neg a6, if_neg k8] at hf
        exact absurd hf (by simp)
theorem times_c (A : Option Addr) (n c : Nat) (x : Ch) (w : World) (sl : Sl w w.heap.size 1 A n (x.gs.flatMap intC)) (hn : n ≤ 1048576) (hlz : x.l.size ≤ 1048576) (hs : x.cs.size ≤ 1048576) (hk : x.k = 8 ∨ GK x.k) (ht : TOk x) :
    Calls Tryz.prog 90 #[chV x.k A n c x.l x.cs x.p] w fun e w' => ∃ v, e = .returned v ∧ w'.ownsRow w.heap.size 2 1 v (timesL x).length ((timesL x).flatMap intC) ∧ Below w.heap.size w w' := by
  rcases hk with h | h
  · exact timesM_c A n c x w sl hn hlz hs h ht
  · exact timesG_c A n c x w sl hn hlz hs h ht
theorem restR_eq {x : Ch} (h : shapeB x = true) (hk : x.k = 8 ∨ GK x.k) : (restR x.k + if 1 < x.gs.length then 20 else 0) = restI x := by
  have hf : fitsB x = true := by simp [shapeB] at h; exact h.2
  have hlen : x.k = 6 ∨ x.k = 7 ∨ x.k = 8 → ¬ 1 < x.gs.length := by
    intro hk6
    unfold fitsB at hf
    by_cases k8 : x.k = 8
    · rw [if_neg (by omega), if_neg (by omega), if_neg (by omega), if_pos k8] at hf
      simp at hf
      rw [hf.1]; simp
    · rw [if_neg (by omega), if_neg (by omega), if_pos (by omega)] at hf
      split at hf
      · simp at hf; rw [hf]; simp
      · simp at hf; omega
  unfold GK at hk
  unfold restI restR gapI
  rcases hk with e | e | e | e | e | e <;> simp only [e] at hlen ⊢ <;> simp at hlen ⊢ <;> (try split) <;> omega
theorem restR_bd (k : Int) : 0 ≤ restR k ∧ restR k ≤ 30 := by unfold restR; (repeat' split) <;> omega
set_option maxRecDepth 100000 in
set_option maxHeartbeats 1000000 in
theorem leastPeriod_c (A : Option Addr) (n c : Nat) (x : Ch) (w : World) (sl : Sl w w.heap.size 1 A n (x.gs.flatMap intC)) (hn : n ≤ 1048576) (hlz : x.l.size ≤ 1048576) (hs : x.cs.size ≤ 1048576) (hsh : shapeB x = true) :
    Calls Tryz.prog 62 #[chV x.k A n c x.l x.cs x.p] w fun e w' => e = .returned (.int .i64 (leastI x)) ∧ Below w.heap.size w w' := by
  have ht := shape_TOk hsh
  obtain ⟨b1, b2⟩ := times_bd ht
  have hsa := sum_abs (gs := timesL x) fun y hy => by have := b2 y hy; omega
  obtain ⟨r1, r2⟩ := restI_bd x
  have hl := sl.len intC 1 intC_len (by omega)
  have hb0 : Below w.heap.size w (w.alloc (.cells #[.int .i64 x.k, .slice A n c, .string x.l, .string x.cs, .int .i64 x.p] 60)) := by (repeat (first | (with_reducible assumption) | (with_reducible exact Below.refl _ _) | exact Nat.le_refl _ | exact Below.size (by with_reducible assumption) | (with_reducible refine Below.drew ?_) | (with_reducible refine below_drewN ?_ _) | (with_reducible refine Below.alloc ?_ ?_ _) | (with_reducible refine Below.setCell ?_ ?_ _) | (with_reducible refine le_alloc ?_ _) | (with_reducible refine le_set ?_ _ _) | (with_reducible refine le_drew ?_) | (with_reducible refine le_drewN ?_ _) | omega | (dsimp only; omega)))
  have sl0 := sl.next hb0
  cases hst : steadyB x
  · by_cases hk3 : x.k = 3
    · have hk3' : (x.k == 3) = true := by simpa using hk3
      have hfin : leastI x = 20 := by rw [leastI, if_neg (by rw [hst]; simp), if_pos hk3]
      have Hfin := Lib.hid hfin; clear hfin
      have Hl := Lib.hid hl; clear hl
      clear hk3
      go_enter Tryz.func62, Tryz.ntmps62
      go_wp2_with (go_at_call 61; refine (isSteady_c A n c x _ sl0 hn hlz hs).mono ?_; rintro e w1 ⟨rfl, hb1⟩; have q1 := keepC hb1 w.heap.size (by simp))
      go_ret
      exact ⟨ret_eq (int_eq Hfin.out.symm), hb0.trans (hb1.mono (by simp))⟩
    · have hk3' : (x.k == 3) = false := by simpa using hk3
      have hgk := shape_GK hsh hst hk3
      have hrr := restR_eq hsh hgk
      obtain ⟨r3, r4⟩ := restR_bd x.k
      obtain ⟨s1, s2⟩ := hsa
      have hfin : leastI x = (timesL x).sum + restI x := by rw [leastI, if_neg (by rw [hst]; simp), if_neg hk3]
      have Hfin := Lib.hid hfin; clear hfin
      clear hk3
      by_cases h1n : 1 < n
      · rw [if_pos (by rw [hl]; exact h1n)] at hrr
        have Hrr := Lib.hid hrr; clear hrr
        have Hl := Lib.hid hl; clear hl
        go_enter Tryz.func62, Tryz.ntmps62
        go_wp2_with (first | (go_at_call 61; refine (isSteady_c A n c x _ sl0 hn hlz hs).mono ?_; rintro e w1 ⟨rfl, hb1⟩; have q1 := keepC hb1 w.heap.size (by simp)) | (go_at_call 88; refine (rhythm_c _ _).mono ?_; rintro e w9 ⟨rfl, rfl⟩))
        have sl1 := sl0.next hb1
        have hbw1 := hb0.trans (hb1.mono (by simp))
        refine (times_c A n c x _ sl1 hn hlz hs hgk ht).mono ?_
        rintro e w2 ⟨v, rfl, ho, hb2⟩
        obtain ⟨A1, c1, rfl⟩ := own_slice ho
        go_wp2_with fail
        refine (sumOf_c A1 _ c1 (timesL x) _ (Sl.of_own ho) (by omega) (fun y hy => by have := b2 y hy; omega)).mono ?_
        rintro e w3 ⟨rfl, rfl⟩
        go_wp2_with fail
        go_ret
        exact ⟨ret_eq (int_eq (by rw [Hfin.out, ← Hrr.out])), hbw1.trans (hb2.mono hbw1.size)⟩
      · rw [if_neg (by rw [hl]; exact h1n), Int.add_zero] at hrr
        have Hrr := Lib.hid hrr; clear hrr
        have Hl := Lib.hid hl; clear hl
        go_enter Tryz.func62, Tryz.ntmps62
        go_wp2_with (first | (go_at_call 61; refine (isSteady_c A n c x _ sl0 hn hlz hs).mono ?_; rintro e w1 ⟨rfl, hb1⟩; have q1 := keepC hb1 w.heap.size (by simp)) | (go_at_call 88; refine (rhythm_c _ _).mono ?_; rintro e w9 ⟨rfl, rfl⟩))
        have sl1 := sl0.next hb1
        have hbw1 := hb0.trans (hb1.mono (by simp))
        refine (times_c A n c x _ sl1 hn hlz hs hgk ht).mono ?_
        rintro e w2 ⟨v, rfl, ho, hb2⟩
        obtain ⟨A1, c1, rfl⟩ := own_slice ho
        go_wp2_with fail
        refine (sumOf_c A1 _ c1 (timesL x) _ (Sl.of_own ho) (by omega) (fun y hy => by have := b2 y hy; omega)).mono ?_
        rintro e w3 ⟨rfl, rfl⟩
        go_wp2_with fail
        go_ret
        exact ⟨ret_eq (int_eq (by rw [Hfin.out, ← Hrr.out])), hbw1.trans (hb2.mono hbw1.size)⟩
  · have hfin : leastI x = 0 := by rw [leastI, if_pos hst]
    have Hfin := Lib.hid hfin; clear hfin
    have Hl := Lib.hid hl; clear hl
    go_enter Tryz.func62, Tryz.ntmps62
    go_wp2_with (go_at_call 61; refine (isSteady_c A n c x _ sl0 hn hlz hs).mono ?_; rintro e w1 ⟨rfl, hb1⟩)
    go_ret
    exact ⟨ret_eq (int_eq Hfin.out.symm), hb0.trans (hb1.mono (by simp))⟩
end Go.Proofs.YtgibbhipjpbdfaaGreat
