/- Two aids compared: the program. -/
import Derived.Test.YtafojijhfbnehaaGreatDoorNotNil
namespace Go.Proofs.YtafojijhfbnehaaGreatDoor
open Go.RowKit
set_option maxRecDepth 100000 in
set_option maxHeartbeats 4000000 in
theorem sameAid_w (z y : AidG) (C S : Bool) (w : World) (h : AidOk w z) (h' : AidOk w y)
    (hC : ∀ w1, AidOk w1 z → AidOk w1 y → Calls Tryz.prog 114 #[chV z.a.ch.k z.A z.n z.c z.a.ch.l z.a.ch.cs z.a.ch.p, chV y.a.ch.k y.A y.n y.c y.a.ch.l y.a.ch.cs y.a.ch.p] w1 fun e w' => e = .returned (.bool C) ∧ Below w1.heap.size w1 w')
    (hS : ∀ w1, AidOk w1 z → AidOk w1 y → Calls Tryz.prog 115 #[.slice z.B z.m z.d, .slice y.B y.m y.d] w1 fun e w' => e = .returned (.bool S) ∧ Below w1.heap.size w1 w') :
    Calls Tryz.prog 69 #[z.val, y.val] w fun e w' => e = .returned (.bool (aidSame0 z.a y.a C S)) ∧ Below w.heap.size w w' := by
  have he := eql_point z.a.x z.a.y y.a.x y.a.y
  have hm := eql_mark z.a.mr y.a.mr
  have hv : aidSame0 z.a y.a C S = ((z.a.num == y.a.num) && ((z.a.nm.toList == y.a.nm.toList) && ((z.a.x == y.a.x && z.a.y == y.a.y) && ((z.a.h == y.a.h) && (mkSame z.a.mr y.a.mr && (C && (S && (z.a.it == y.a.it)))))))) := rfl
  rw [hv]
  obtain ⟨P, hP⟩ : ∃ P, (z.a.x == y.a.x && z.a.y == y.a.y) = P := ⟨_, rfl⟩
  obtain ⟨M, hM⟩ : ∃ M, mkSame z.a.mr y.a.mr = M := ⟨_, rfl⟩
  rw [hP] at he ⊢
  rw [hM] at hm ⊢
  have hb0 : Below w.heap.size w ((w.alloc (aidO z 53)).alloc (aidO y 53)) := by (repeat (first | (with_reducible assumption) | (with_reducible exact Below.refl _ _) | exact Nat.le_refl _ | exact Below.size (by with_reducible assumption) | (with_reducible refine Below.drew ?_) | (with_reducible refine below_drewN ?_ _) | (with_reducible refine Below.alloc ?_ ?_ _) | (with_reducible refine Below.setCell ?_ ?_ _) | (with_reducible refine le_alloc ?_ _) | (with_reducible refine le_set ?_ _ _) | (with_reducible refine le_drew ?_) | (with_reducible refine le_drewN ?_ _) | omega | (dsimp only; omega)))
  have p1 := (aidp_box w z 53).next (w' := (w.alloc (aidO z 53)).alloc (aidO y 53)) (by (repeat (first | (with_reducible assumption) | (with_reducible exact Below.refl _ _) | exact Nat.le_refl _ | exact Below.size (by with_reducible assumption) | (with_reducible refine Below.drew ?_) | (with_reducible refine below_drewN ?_ _) | (with_reducible refine Below.alloc ?_ ?_ _) | (with_reducible refine Below.setCell ?_ ?_ _) | (with_reducible refine le_alloc ?_ _) | (with_reducible refine le_set ?_ _ _) | (with_reducible refine le_drew ?_) | (with_reducible refine le_drewN ?_ _) | omega | (dsimp only; omega))))
  have p2 := aidp_box (w.alloc (aidO z 53)) y 53
  have hsz : (w.alloc (aidO z 53)).heap.size = w.heap.size + 1 := by simp
  rw [hsz] at p2
  have s1 := h.next hb0
  have s2 := h'.next hb0
  obtain ⟨w0, hw⟩ : ∃ w0, (w.alloc (aidO z 53)).alloc (aidO y 53) = w0 := ⟨_, rfl⟩
  have hz : w.heap.size < w0.heap.size := by rw [← hw]; simp; omega
  have hz' : w.heap.size + 1 < w0.heap.size := by rw [← hw]; simp
  rw [hw] at p1 p2 hb0 s1 s2
  obtain ⟨c0, c1, c2, c3, c4, c5, c6, c7, c8, c9, c10, c11, c12, c13, c14, c15, _⟩ := p1
  obtain ⟨d0, d1, d2, d3, d4, d5, d6, d7, d8, d9, d10, d11, d12, d13, d14, d15, _⟩ := p2
  simp only [Nat.zero_add] at c1 c2 c3 c4 c5 c6 c7 c8 c9 c10 c11 c12 c13 c14 c15 d1 d2 d3 d4 d5 d6 d7 d8 d9 d10 d11 d12 d13 d14 d15
  have g1 := pointGuard
  have g2 := markGuard
  clear hsz
  have hC0 := hC w0 s1 s2
  have hS0 : ∀ w1, Below w0.heap.size w0 w1 → Calls Tryz.prog 115 #[.slice z.B z.m z.d, .slice y.B y.m y.d] w1 fun e w' => e = .returned (.bool S) ∧ Below w1.heap.size w1 w' := fun w1 hb => hS w1 (s1.next hb) (s2.next hb)
  have Hv := Lib.hid hv; clear hv
  have HP := Lib.hid hP; clear hP
  have HM := Lib.hid hM; clear hM
  have HC := Lib.hid hC0; clear hC0
  have HS := Lib.hid hS0; clear hS0
  clear hC hS s1 s2 h h'
  cases h1 : (z.a.num == y.a.num)
  · go_enter Tryz.func69, Tryz.ntmps69
    go_wp2_with fail
    try rw [hw]
    clear hw
    go_wp2_with (first | (go_at_call 114; refine (HC.out).mono ?_; rintro e w1 ⟨rfl, hb1⟩; have q1 := keepC hb1 w.heap.size hz; have r1 := keepC hb1 (w.heap.size + 1) hz') | (go_at_call 115; refine (HS.out _ hb1).mono ?_; rintro e w2 ⟨rfl, hb2⟩; have hb12 := hb1.trans (hb2.mono hb1.size); have q2 := keepC hb12 w.heap.size hz; have r2 := keepC hb12 (w.heap.size + 1) hz'; clear q1 r1))
    go_ret
    exact ⟨ret_eq (bool_eq (by simp)), hb0⟩
  cases h2 : (z.a.nm.toList == y.a.nm.toList)
  · go_enter Tryz.func69, Tryz.ntmps69
    go_wp2_with fail
    try rw [hw]
    clear hw
    go_wp2_with (first | (go_at_call 114; refine (HC.out).mono ?_; rintro e w1 ⟨rfl, hb1⟩; have q1 := keepC hb1 w.heap.size hz; have r1 := keepC hb1 (w.heap.size + 1) hz') | (go_at_call 115; refine (HS.out _ hb1).mono ?_; rintro e w2 ⟨rfl, hb2⟩; have hb12 := hb1.trans (hb2.mono hb1.size); have q2 := keepC hb12 w.heap.size hz; have r2 := keepC hb12 (w.heap.size + 1) hz'; clear q1 r1))
    go_ret
    exact ⟨ret_eq (bool_eq (by simp)), hb0⟩
  cases P
  · go_enter Tryz.func69, Tryz.ntmps69
    go_wp2_with fail
    try rw [hw]
    clear hw
    go_wp2_with (first | (go_at_call 114; refine (HC.out).mono ?_; rintro e w1 ⟨rfl, hb1⟩; have q1 := keepC hb1 w.heap.size hz; have r1 := keepC hb1 (w.heap.size + 1) hz') | (go_at_call 115; refine (HS.out _ hb1).mono ?_; rintro e w2 ⟨rfl, hb2⟩; have hb12 := hb1.trans (hb2.mono hb1.size); have q2 := keepC hb12 w.heap.size hz; have r2 := keepC hb12 (w.heap.size + 1) hz'; clear q1 r1))
    go_ret
    exact ⟨ret_eq (bool_eq (by simp)), hb0⟩
  cases h4 : (z.a.h == y.a.h)
  · go_enter Tryz.func69, Tryz.ntmps69
    go_wp2_with fail
    try rw [hw]
    clear hw
    go_wp2_with (first | (go_at_call 114; refine (HC.out).mono ?_; rintro e w1 ⟨rfl, hb1⟩; have q1 := keepC hb1 w.heap.size hz; have r1 := keepC hb1 (w.heap.size + 1) hz') | (go_at_call 115; refine (HS.out _ hb1).mono ?_; rintro e w2 ⟨rfl, hb2⟩; have hb12 := hb1.trans (hb2.mono hb1.size); have q2 := keepC hb12 w.heap.size hz; have r2 := keepC hb12 (w.heap.size + 1) hz'; clear q1 r1))
    go_ret
    exact ⟨ret_eq (bool_eq (by simp)), hb0⟩
  cases M
  · go_enter Tryz.func69, Tryz.ntmps69
    go_wp2_with fail
    try rw [hw]
    clear hw
    go_wp2_with (first | (go_at_call 114; refine (HC.out).mono ?_; rintro e w1 ⟨rfl, hb1⟩; have q1 := keepC hb1 w.heap.size hz; have r1 := keepC hb1 (w.heap.size + 1) hz') | (go_at_call 115; refine (HS.out _ hb1).mono ?_; rintro e w2 ⟨rfl, hb2⟩; have hb12 := hb1.trans (hb2.mono hb1.size); have q2 := keepC hb12 w.heap.size hz; have r2 := keepC hb12 (w.heap.size + 1) hz'; clear q1 r1))
    go_ret
    exact ⟨ret_eq (bool_eq (by simp)), hb0⟩
  cases C
  · go_enter Tryz.func69, Tryz.ntmps69
    go_wp2_with fail
    try rw [hw]
    clear hw
    go_wp2_with (first | (go_at_call 114; refine (HC.out).mono ?_; rintro e w1 ⟨rfl, hb1⟩; have q1 := keepC hb1 w.heap.size hz; have r1 := keepC hb1 (w.heap.size + 1) hz') | (go_at_call 115; refine (HS.out _ hb1).mono ?_; rintro e w2 ⟨rfl, hb2⟩; have hb12 := hb1.trans (hb2.mono hb1.size); have q2 := keepC hb12 w.heap.size hz; have r2 := keepC hb12 (w.heap.size + 1) hz'; clear q1 r1))
    go_ret
    exact ⟨ret_eq (bool_eq (by simp)), hb0.trans (hb1.mono hb0.size)⟩
  cases S
  · go_enter Tryz.func69, Tryz.ntmps69
    go_wp2_with fail
    try rw [hw]
    clear hw
    go_wp2_with (first | (go_at_call 114; refine (HC.out).mono ?_; rintro e w1 ⟨rfl, hb1⟩; have q1 := keepC hb1 w.heap.size hz; have r1 := keepC hb1 (w.heap.size + 1) hz') | (go_at_call 115; refine (HS.out _ hb1).mono ?_; rintro e w2 ⟨rfl, hb2⟩; have hb12 := hb1.trans (hb2.mono hb1.size); have q2 := keepC hb12 w.heap.size hz; have r2 := keepC hb12 (w.heap.size + 1) hz'; clear q1 r1))
    go_ret
    exact ⟨ret_eq (bool_eq (by simp)), hb0.trans (hb12.mono hb0.size)⟩
  · go_enter Tryz.func69, Tryz.ntmps69
    go_wp2_with fail
    try rw [hw]
    clear hw
    go_wp2_with (first | (go_at_call 114; refine (HC.out).mono ?_; rintro e w1 ⟨rfl, hb1⟩; have q1 := keepC hb1 w.heap.size hz; have r1 := keepC hb1 (w.heap.size + 1) hz') | (go_at_call 115; refine (HS.out _ hb1).mono ?_; rintro e w2 ⟨rfl, hb2⟩; have hb12 := hb1.trans (hb2.mono hb1.size); have q2 := keepC hb12 w.heap.size hz; have r2 := keepC hb12 (w.heap.size + 1) hz'; clear q1 r1))
    go_ret
    exact ⟨ret_eq (bool_eq (by simp)), hb0.trans (hb12.mono hb0.size)⟩
end Go.Proofs.YtafojijhfbnehaaGreatDoor
