
/- Aids: the program. -/
import Derived.Test.YtpfnnjcochhklaaGreatDoorMarkG
import Derived.Test.YtpfnnjcochhklaaGreatDoorSecG
namespace Go.Proofs.YtpfnnjcochhklaaGreatDoor
open Go.RowKit
set_option maxHeartbeats 400000 in
theorem isNumber_c (n : Int) (w : World) : Calls Tryz.prog 105 #[.int .i64 n] w fun e w' => e = .returned (.bool (inB n 1 9999)) ∧ w = w' := by
  go_enter Tryz.func105, Tryz.ntmps105
  go_wp2_with (go_at_call 124; refine (within_c _ _ _ _).mono ?_; rintro e w1 ⟨rfl, rfl⟩)
  go_ret
  exact ⟨rfl, rfl⟩
set_option maxHeartbeats 400000 in
theorem isHeight_c (n : Int) (w : World) : Calls Tryz.prog 108 #[.int .i64 n] w fun e w' => e = .returned (.bool (inB n 0 3000)) ∧ w = w' := by
  go_enter Tryz.func108, Tryz.ntmps108
  go_wp2_with (go_at_call 124; refine (within_c _ _ _ _).mono ?_; rintro e w1 ⟨rfl, rfl⟩)
  go_ret
  exact ⟨rfl, rfl⟩
set_option maxHeartbeats 400000 in
theorem isIntensity_c (n : Int) (w : World) : Calls Tryz.prog 132 #[.int .i64 n] w fun e w' => e = .returned (.bool (inB n 1 100000000)) ∧ w = w' := by
  go_enter Tryz.func132, Tryz.ntmps132
  go_wp2_with (go_at_call 124; refine (within_c _ _ _ _).mono ?_; rintro e w1 ⟨rfl, rfl⟩)
  go_ret
  exact ⟨rfl, rfl⟩
set_option maxHeartbeats 400000 in
theorem validPoint_c (x y : Int) (w : World) : Calls Tryz.prog 107 #[ptV x y] w fun e w' => e = .returned (.bool (inB x 0 200000 && inB y 0 200000)) ∧ Below w.heap.size w w' := by
  cases h1 : inB x 0 200000
  all_goals
    go_enter Tryz.func107, Tryz.ntmps107
    go_wp2_with (go_at_call 124; refine (within_c _ _ _ _).mono ?_; rintro e w1 ⟨rfl, rfl⟩)
    go_ret
    exact ⟨ret_eq (bool_eq (by simp)), by (repeat (first | (with_reducible assumption) | (with_reducible exact Below.refl _ _) | exact Nat.le_refl _ | exact Below.size (by with_reducible assumption) | (with_reducible refine Below.drew ?_) | (with_reducible refine below_drewN ?_ _) | (with_reducible refine Below.alloc ?_ ?_ _) | (with_reducible refine Below.setCell ?_ ?_ _) | (with_reducible refine le_alloc ?_ _) | (with_reducible refine le_set ?_ _ _) | (with_reducible refine le_drew ?_) | (with_reducible refine le_drewN ?_ _) | omega | (dsimp only; omega)))⟩
set_option maxRecDepth 100000 in
set_option maxHeartbeats 400000 in
theorem same64_c (A A' : Option Addr) (n n' c c' : Nat) (xs ys : List Int) (w : World) (h : Sl w w.heap.size 1 A n (xs.flatMap intC)) (h' : Sl w w.heap.size 1 A' n' (ys.flatMap intC)) (hm : n ≤ maxLen) (hm' : n' ≤ maxLen) :
    Calls Tryz.prog 112 #[.slice A n c, .slice A' n' c'] w fun e w' => e = .returned (.bool (decide (xs = ys))) ∧ Below w.heap.size w w' := by
  unfold maxLen at hm hm'
  have l1 := h.len intC 1 intC_len (by omega)
  have l2 := h'.len intC 1 intC_len (by omega)
  have L1 := Lib.hid l1; clear l1
  have L2 := Lib.hid l2; clear l2
  by_cases hnn : n = n'
  · subst hnn
    go_enter Tryz.func112, Tryz.ntmps112
    go_wp2
    go_loopw [13] (fun i wr => ∃ k : Nat, k ≤ n ∧ i = .int .i64 k ∧ Hid (∀ r, r < k → xs[r]? = ys[r]?) ∧ Below w.heap.size w wr) (fun i _ => n - (intOf i).toNat)
    case atStart => exact ⟨0, Nat.zero_le _, rfl, Lib.hid (fun r hr => absurd hr (by omega)), Below.refl _ _⟩
    case round =>
      obtain ⟨k, hk, rfl, HT, hbw⟩ := hrel
      by_cases hlt : k < n
      · obtain ⟨b, off, x, rfl, hb, hx, c1⟩ := h.int k hlt
        obtain ⟨b', off', y, rfl, hb', hy, c1'⟩ := h'.int k hlt
        have Hx := Lib.hid hx; clear hx
        have Hy := Lib.hid hy; clear hy
        have j1 : (0 : Int) ≤ (k : Int) := by omega
        have j2 : (k : Int) < (n : Int) := by omega
        have q1 := keepC hbw b hb
        have q2 := keepC hbw b' hb'
        by_cases hxy : x = y
        · have e0 : (x == y) = true := by simpa using hxy
          have e1 : (x != y) = false := by simp [hxy]
          have Hxy := Lib.hid hxy; clear hxy
          go_wp2
          go_quiet (fail)
          go_wp2
          go_roundw
          case rel =>
            refine ⟨k + 1, by omega, by go_num, Lib.hid (fun r hr => ?_), below_drewN hbw _⟩
            rcases Nat.lt_or_ge r k with h2 | h2
            · exact HT.out r h2
            · obtain rfl : r = k := by omega
              rw [Hx.out, Hy.out, Hxy.out]
          case measure => simp [intOf]; omega
        · have e0 : (x == y) = false := by simpa using hxy
          have e1 : (x != y) = true := by simp [hxy]
          have Hxy := Lib.hid hxy; clear hxy
          go_wp2
          go_quiet (fail)
          go_wp2
          go_ret
          exact ⟨ret_eq (bool_eq (decide_eq_false (fun e => Hxy.out (by have h3 := Hx.out; rw [e, Hy.out] at h3; exact (Option.some.inj h3).symm))).symm), below_drewN hbw _⟩
      · go_wp2
        go_ret
        have he : xs = ys := List.ext_getElem? fun r => by
          rcases Nat.lt_or_ge r k with h2 | h2
          · exact HT.out r h2
          · rw [List.getElem?_eq_none (by rw [L1.out]; omega), List.getElem?_eq_none (by rw [L2.out]; omega)]
        exact ⟨ret_eq (bool_eq (decide_eq_true he).symm), hbw⟩
  · go_enter Tryz.func112, Tryz.ntmps112
    go_wp2
    go_ret
    refine ⟨ret_eq (bool_eq (decide_eq_false (fun e => hnn ?_)).symm), Below.refl _ _⟩
    rw [← L1.out, ← L2.out, e]
def sameCh (x y : Ch) : Bool := (x.k == y.k) && (decide (x.gs = y.gs) && ((x.l.toList == y.l.toList) && ((x.cs.toList == y.cs.toList) && (x.p == y.p))))
set_option maxRecDepth 100000 in
set_option maxHeartbeats 1000000 in
theorem sameCharacter_c (A A' : Option Addr) (n n' c c' : Nat) (x y : Ch) (w : World) (sl : Sl w w.heap.size 1 A n (x.gs.flatMap intC)) (sl' : Sl w w.heap.size 1 A' n' (y.gs.flatMap intC)) (hm : n ≤ 1048576) (hm' : n' ≤ 1048576) :
    Calls Tryz.prog 79 #[chV x.k A n c x.l x.cs x.p, chV y.k A' n' c' y.l y.cs y.p] w fun e w' => e = .returned (.bool (sameCh x y)) ∧ Below w.heap.size w w' := by
  obtain ⟨k, gs, l, cs, p⟩ := x
  obtain ⟨k', gs', l', cs', p'⟩ := y
  simp only at sl sl'
  have hb0 : Below w.heap.size w ((w.alloc (.cells #[.int .i64 k, .slice A n c, .string l, .string cs, .int .i64 p] 53)).alloc (.cells #[.int .i64 k', .slice A' n' c', .string l', .string cs', .int .i64 p'] 53)) := by (repeat (first | (with_reducible assumption) | (with_reducible exact Below.refl _ _) | exact Nat.le_refl _ | exact Below.size (by with_reducible assumption) | (with_reducible refine Below.drew ?_) | (with_reducible refine below_drewN ?_ _) | (with_reducible refine Below.alloc ?_ ?_ _) | (with_reducible refine Below.setCell ?_ ?_ _) | (with_reducible refine le_alloc ?_ _) | (with_reducible refine le_set ?_ _ _) | (with_reducible refine le_drew ?_) | (with_reducible refine le_drewN ?_ _) | omega | (dsimp only; omega)))
  have hS : ∀ w1, Sl w1 w1.heap.size 1 A n (gs.flatMap intC) → Sl w1 w1.heap.size 1 A' n' (gs'.flatMap intC) → Calls Tryz.prog 112 #[.slice A n c, .slice A' n' c'] w1 fun e w' => e = .returned (.bool (decide (gs = gs'))) ∧ Below w1.heap.size w1 w' :=
    fun w1 a b => same64_c A A' n n' c c' gs gs' w1 a b (by unfold maxLen; omega) (by unfold maxLen; omega)
  have hv : sameCh ⟨k, gs, l, cs, p⟩ ⟨k', gs', l', cs', p'⟩ = ((k == k') && (decide (gs = gs') && ((l.toList == l'.toList) && ((cs.toList == cs'.toList) && (p == p'))))) := rfl
  rw [hv]
  clear hv
  obtain ⟨G, hG⟩ : ∃ G, decide (gs = gs') = G := ⟨_, rfl⟩
  rw [hG] at hS ⊢
  have HS := Lib.hid hS; clear hS
  have HG := Lib.hid hG; clear hG
  cases h1 : (k == k')
  · go_enter Tryz.func79, Tryz.ntmps79
    go_wp2_with (go_at_call 112; refine (HS.out _ (sl.next hb0) (sl'.next hb0)).mono ?_; rintro e w1 ⟨rfl, hb1⟩; have q1 := keepC hb1 w.heap.size (by simp only [World.size_alloc]; omega); have r1 := keepC hb1 (w.heap.size + 1) (by simp only [World.size_alloc]; omega))
    go_ret
    exact ⟨rfl, hb0⟩
  cases G
  · go_enter Tryz.func79, Tryz.ntmps79
    go_wp2_with (go_at_call 112; refine (HS.out _ (sl.next hb0) (sl'.next hb0)).mono ?_; rintro e w1 ⟨rfl, hb1⟩; have q1 := keepC hb1 w.heap.size (by simp only [World.size_alloc]; omega); have r1 := keepC hb1 (w.heap.size + 1) (by simp only [World.size_alloc]; omega))
    go_ret
    exact ⟨rfl, hb0.trans (hb1.mono hb0.size)⟩
  cases h2 : (l.toList == l'.toList)
  · go_enter Tryz.func79, Tryz.ntmps79
    go_wp2_with (go_at_call 112; refine (HS.out _ (sl.next hb0) (sl'.next hb0)).mono ?_; rintro e w1 ⟨rfl, hb1⟩; have q1 := keepC hb1 w.heap.size (by simp only [World.size_alloc]; omega); have r1 := keepC hb1 (w.heap.size + 1) (by simp only [World.size_alloc]; omega))
    go_ret
    exact ⟨rfl, hb0.trans (hb1.mono hb0.size)⟩
  cases h3 : (cs.toList == cs'.toList)
  · go_enter Tryz.func79, Tryz.ntmps79
    go_wp2_with (go_at_call 112; refine (HS.out _ (sl.next hb0) (sl'.next hb0)).mono ?_; rintro e w1 ⟨rfl, hb1⟩; have q1 := keepC hb1 w.heap.size (by simp only [World.size_alloc]; omega); have r1 := keepC hb1 (w.heap.size + 1) (by simp only [World.size_alloc]; omega))
    go_ret
    exact ⟨rfl, hb0.trans (hb1.mono hb0.size)⟩
  · go_enter Tryz.func79, Tryz.ntmps79
    go_wp2_with (go_at_call 112; refine (HS.out _ (sl.next hb0) (sl'.next hb0)).mono ?_; rintro e w1 ⟨rfl, hb1⟩; have q1 := keepC hb1 w.heap.size (by simp only [World.size_alloc]; omega); have r1 := keepC hb1 (w.heap.size + 1) (by simp only [World.size_alloc]; omega))
    go_ret
    exact ⟨ret_eq (bool_eq (by simp)), hb0.trans (hb1.mono hb0.size)⟩
end Go.Proofs.YtpfnnjcochhklaaGreatDoor
