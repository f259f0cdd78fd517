/- Characters: how many flashes. -/
import Derived.Test.YtimbakjajglppaaChPh
namespace Go.Proofs.Ytimbakjajglppaa
open Go.RowKit
def cntI (x : Ch) : Int := if x.k = 1 then 0 else if x.k = 3 then 1 else ((timesL x).length + 1) / 2
set_option maxRecDepth 100000 in
set_option maxHeartbeats 1000000 in
theorem specCount_c (A : Option Addr) (n c : Nat) (x : Ch) (w : World) (sl : Sl w w.heap.size 1 A n (x.gs.flatMap intC)) (hn : n ≤ 1048576) (hlz : x.l.size ≤ 1048576) (hs : x.cs.size ≤ 1048576) :
    Calls Try.prog 29 #[chV x.k A n c x.l x.cs x.p] w fun e w' => e = .returned (.tuple #[.int .i64 (bif validB x then cntI x else 0), .int .i64 (bif validB x then 0 else 1)]) ∧ Below w.heap.size w w' := by
  have hp := chp_box (c := c) 42 sl hn hlz hs
  have hb0 : Below w.heap.size w (w.alloc (.cells #[.int .i64 x.k, .slice A n c, .string x.l, .string x.cs, .int .i64 x.p] 42)) := by (repeat (first | (with_reducible assumption) | (with_reducible exact Below.refl _ _) | exact Nat.le_refl _ | exact Below.size (by with_reducible assumption) | (with_reducible refine Below.drew ?_) | (with_reducible refine below_drewN ?_ _) | (with_reducible refine Below.alloc ?_ ?_ _) | (with_reducible refine Below.setCell ?_ ?_ _) | (with_reducible refine le_alloc ?_ _) | (with_reducible refine le_set ?_ _ _) | (with_reducible refine le_drew ?_) | (with_reducible refine le_drewN ?_ _) | omega | (dsimp only; omega)))
  cases hv : validB x
  · go_enter Try.func29, Try.ntmps29
    go_wp2_with fail
    refine (l05Ok_c _ _ _ _ _ x _ hp).mono ?_
    rintro e w1 ⟨rfl, hb1⟩
    go_wp2_with fail
    go_ret2
    exact ⟨rfl, hb0.trans (hb1.mono hb0.size)⟩
  have ht := shape_TOk (valid_shape hv)
  have hlen := (times_bd ht).1
  by_cases h1 : x.k = 1
  · have hk1 : (x.k == 1) = true := by simpa using h1
    have hc : cntI x = 0 := by rw [cntI, if_pos h1]
    rw [hc]
    have Hc := Lib.hid hc; clear hc
    clear h1
    go_enter Try.func29, Try.ntmps29
    go_wp2_with fail
    refine (l05Ok_c _ _ _ _ _ x _ hp).mono ?_
    rintro e w1 ⟨rfl, hb1⟩
    have c0 := (hp.next hb1).c0
    go_wp2_with fail
    go_ret2
    exact ⟨rfl, hb0.trans (hb1.mono hb0.size)⟩
  have hk1 : (x.k == 1) = false := by simpa using h1
  by_cases h3 : x.k = 3
  · have hk3 : (x.k == 3) = true := by simpa using h3
    have hc : cntI x = 1 := by rw [cntI, if_neg h1, if_pos h3]
    rw [hc]
    have Hc := Lib.hid hc; clear hc
    clear h1 h3
    go_enter Try.func29, Try.ntmps29
    go_wp2_with fail
    refine (l05Ok_c _ _ _ _ _ x _ hp).mono ?_
    rintro e w1 ⟨rfl, hb1⟩
    have c0 := (hp.next hb1).c0
    go_wp2_with fail
    go_ret2
    exact ⟨rfl, hb0.trans (hb1.mono hb0.size)⟩
  have hk3 : (x.k == 3) = false := by simpa using h3
  have hc : cntI x = ((timesL x).length + 1) / 2 := by rw [cntI, if_neg h1, if_neg h3]
  rw [hc]
  have Hc := Lib.hid hc; clear hc
  clear h1 h3
  go_enter Try.func29, Try.ntmps29
  go_wp2_with fail
  refine (l05Ok_c _ _ _ _ _ x _ hp).mono ?_
  rintro e w1 ⟨rfl, hb1⟩
  have hp1 := hp.next hb1
  have c0 := hp1.c0
  go_wp2_with fail
  refine (l05Times_c _ _ _ _ _ x _ hp1 ht).mono ?_
  rintro e w2 ⟨v, rfl, ho, hb2⟩
  obtain ⟨A1, c1, rfl⟩ := own_slice ho
  go_wp2_with fail
  go_ret2
  exact ⟨rfl, (hb0.trans (hb1.mono hb0.size)).trans (hb2.mono (Nat.le_trans hb0.size hb1.size))⟩
set_option maxRecDepth 100000 in
set_option maxHeartbeats 1000000 in
theorem implCount_c (A : Option Addr) (n c : Nat) (x : Ch) (w : World) (sl : Sl w w.heap.size 1 A n (x.gs.flatMap intC)) (hn : n ≤ 1048576) (hlz : x.l.size ≤ 1048576) (hs : x.cs.size ≤ 1048576) :
    Calls Try.prog 30 #[chV x.k A n c x.l x.cs x.p] w fun e w' => e = .returned (.tuple #[.int .i64 (bif validB x then cntI x else 0), .int .i64 (bif validB x then 0 else 1)]) ∧ Below w.heap.size w w' := by
  have hb0 : Below w.heap.size w (w.alloc (.cells #[.int .i64 x.k, .slice A n c, .string x.l, .string x.cs, .int .i64 x.p] 42)) := by (repeat (first | (with_reducible assumption) | (with_reducible exact Below.refl _ _) | exact Nat.le_refl _ | exact Below.size (by with_reducible assumption) | (with_reducible refine Below.drew ?_) | (with_reducible refine below_drewN ?_ _) | (with_reducible refine Below.alloc ?_ ?_ _) | (with_reducible refine Below.setCell ?_ ?_ _) | (with_reducible refine le_alloc ?_ _) | (with_reducible refine le_set ?_ _ _) | (with_reducible refine le_drew ?_) | (with_reducible refine le_drewN ?_ _) | omega | (dsimp only; omega)))
  have sl0 := sl.next hb0
  cases hv : validB x
  · go_enter Try.func30, Try.ntmps30
    go_wp2_with fail
    refine (implValid_c A n c x _ sl0 hn hlz hs).mono ?_
    rintro e w1 ⟨rfl, hb1⟩
    go_wp2_with fail
    go_ret2
    exact ⟨rfl, hb0.trans (hb1.mono (by simp))⟩
  have ht := shape_TOk (valid_shape hv)
  have hlen := (times_bd ht).1
  by_cases h1 : x.k = 1
  · have hk1 : (x.k == 1) = true := by simpa using h1
    have hc : cntI x = 0 := by rw [cntI, if_pos h1]
    rw [hc]
    have Hc := Lib.hid hc; clear hc
    clear h1
    go_enter Try.func30, Try.ntmps30
    go_wp2_with fail
    refine (implValid_c A n c x _ sl0 hn hlz hs).mono ?_
    rintro e w1 ⟨rfl, hb1⟩
    have q1 := keepC hb1 w.heap.size (by simp)
    go_wp2_with fail
    go_ret2
    exact ⟨rfl, hb0.trans (hb1.mono (by simp))⟩
  have hk1 : (x.k == 1) = false := by simpa using h1
  by_cases h3 : x.k = 3
  · have hk3 : (x.k == 3) = true := by simpa using h3
    have hc : cntI x = 1 := by rw [cntI, if_neg h1, if_pos h3]
    rw [hc]
    have Hc := Lib.hid hc; clear hc
    clear h1 h3
    go_enter Try.func30, Try.ntmps30
    go_wp2_with fail
    refine (implValid_c A n c x _ sl0 hn hlz hs).mono ?_
    rintro e w1 ⟨rfl, hb1⟩
    have q1 := keepC hb1 w.heap.size (by simp)
    go_wp2_with fail
    go_ret2
    exact ⟨rfl, hb0.trans (hb1.mono (by simp))⟩
  have hk3 : (x.k == 3) = false := by simpa using h3
  have hc : cntI x = ((timesL x).length + 1) / 2 := by rw [cntI, if_neg h1, if_neg h3]
  have hgk := valid_GK hv h1 h3
  rw [hc]
  have Hc := Lib.hid hc; clear hc
  have Hgk := Lib.hid hgk; clear hgk
  clear h1 h3
  go_enter Try.func30, Try.ntmps30
  go_wp2_with fail
  refine (implValid_c A n c x _ sl0 hn hlz hs).mono ?_
  rintro e w1 ⟨rfl, hb1⟩
  have q1 := keepC hb1 w.heap.size (by simp)
  have sl1 := sl0.next hb1
  go_wp2_with fail
  refine (times_c A n c x _ sl1 hn hlz hs Hgk.out ht).mono ?_
  rintro e w2 ⟨v, rfl, ho, hb2⟩
  obtain ⟨A1, c1, rfl⟩ := own_slice ho
  go_wp2_with fail
  go_ret2
  exact ⟨rfl, (hb0.trans (hb1.mono (by simp))).trans (hb2.mono (Nat.le_trans (by simp) hb1.size))⟩
end Go.Proofs.Ytimbakjajglppaa
