/- ErrorFrom, both sides: the outcome. -/
import Derived.Test.YtgfplmfdgbklkaaChErr
namespace Go.Proofs.Ytgfplmfdgbklkaa
open Go.RowKit
theorem from_start {x : Ch} {o : List Ph} {start tol : Int} (hv : validB x = true) (hco : (hcO o).toList.isEmpty = false) (h : fromB x o start tol = true) : 0 ≤ start ∧ start ≤ 1000000 := by
  have hs : startB (phasesL x (hcO o)) start = true := by
    unfold fromB at h
    simp only [Bool.and_eq_true] at h
    cases hk : (x.k == 1)
    · rw [hk] at h
      simp only [cond_false, Bool.and_eq_true] at h
      exact h.2.1
    · rw [hk] at h
      rw [start_fixed hk hco]
      simp only [cond_true, Bool.and_eq_true] at h
      exact h.2.1
  have h1 := startB_lt hs
  have h2 := phases_len40 (co := hcO o) (valid_shape hv)
  omega
set_option maxRecDepth 100000 in
set_option maxHeartbeats 2000000 in
theorem specError_c (A : Option Addr) (n c : Nat) (x : Ch) (w : World) (sl : Sl w w.heap.size 1 A n (x.gs.flatMap intC)) (hn : n ≤ 1048576) (hlz : x.l.size ≤ 1048576) (hs : x.cs.size ≤ 1048576) (Ao : Option Addr) (no co : Nat) (o : List Ph) (ho : Sl w w.heap.size 2 Ao no (o.flatMap Ph.cells)) (hno : no ≤ 1048576) (start : Int) :
    Calls Try.prog 21 #[chV x.k A n c x.l x.cs x.p, .slice Ao no co, .int .i64 start] w fun e w' => e = .returned (.tuple #[.int .i64 (errV x o start), .int .i64 (errK x o start)]) ∧ Below w.heap.size w w' := by
  have hp := chp_box (c := c) 30 sl hn hlz hs
  have hb0 : Below w.heap.size w (w.alloc (.cells #[.int .i64 x.k, .slice A n c, .string x.l, .string x.cs, .int .i64 x.p] 30)) := by (repeat (first | (with_reducible assumption) | (with_reducible exact Below.refl _ _) | exact Nat.le_refl _ | exact Below.size (by with_reducible assumption) | (with_reducible refine Below.drew ?_) | (with_reducible refine below_drewN ?_ _) | (with_reducible refine Below.alloc ?_ ?_ _) | (with_reducible refine Below.setCell ?_ ?_ _) | (with_reducible refine le_alloc ?_ _) | (with_reducible refine le_set ?_ _ _) | (with_reducible refine le_drew ?_) | (with_reducible refine le_drewN ?_ _) | omega | (dsimp only; omega)))
  have hl := ho.len Ph.cells 2 Ph.cells_len (by omega)
  have Hl := Lib.hid hl; clear hl
  cases hv : validB x
  · have hO : okCO x o = false := by rw [okCO, hv]; rfl
    have HO := Lib.hid hO; clear hO
    go_enter Try.func21, Try.ntmps21
    go_wp2_with fail
    refine (l05Ok_c _ _ _ _ _ x _ hp).mono ?_
    rintro e w1 ⟨rfl, hb1⟩
    have hp1 := hp.next hb1
    have hbb := hb0.trans (hb1.mono hb0.size)
    have ho1 := ho.next hbb
    go_wp2_with (first | (go_at_call 57; refine (l17Ok_c Ao no co o _ ho1 hno).mono ?_; rintro e w2 ⟨rfl, hb2⟩; have hp2 := hp1.next hb2; have hbb2 := hbb.trans (hb2.mono hbb.size); have ho2 := ho.next hbb2) | (go_at_call 58; refine (l17Tol_c _ _).mono ?_; rintro e w9 ⟨rfl, rfl⟩))
    go_ret2
    exact ⟨by simp [errV, errK, HO.out], hbb⟩
  cases hob : obsB o
  · have hO : okCO x o = false := by rw [okCO, hv, hob]; rfl
    have HO := Lib.hid hO; clear hO
    go_enter Try.func21, Try.ntmps21
    go_wp2_with fail
    refine (l05Ok_c _ _ _ _ _ x _ hp).mono ?_
    rintro e w1 ⟨rfl, hb1⟩
    have hp1 := hp.next hb1
    have hbb := hb0.trans (hb1.mono hb0.size)
    have ho1 := ho.next hbb
    go_wp2_with (first | (go_at_call 57; refine (l17Ok_c Ao no co o _ ho1 hno).mono ?_; rintro e w2 ⟨rfl, hb2⟩; have hp2 := hp1.next hb2; have hbb2 := hbb.trans (hb2.mono hbb.size); have ho2 := ho.next hbb2) | (go_at_call 58; refine (l17Tol_c _ _).mono ?_; rintro e w9 ⟨rfl, rfl⟩))
    go_ret2
    exact ⟨by simp [errV, errK, HO.out], hbb2⟩
  have hO : okCO x o = true := by rw [okCO, hv, hob]; rfl
  have HO := Lib.hid hO; clear hO
  have ok := obsB_ok hob Hl.out
  cases hf : fromB x o start 2400
  · have hV : errV x o start = 0 := by simp [errV, HO.out, hf]
    have hK : errK x o start = 3 := by simp [errK, HO.out, hf]
    rw [hV, hK]
    have HV := Lib.hid hV; clear hV
    have HK := Lib.hid hK; clear hK
    go_enter Try.func21, Try.ntmps21
    go_wp2_with fail
    refine (l05Ok_c _ _ _ _ _ x _ hp).mono ?_
    rintro e w1 ⟨rfl, hb1⟩
    have hp1 := hp.next hb1
    have hbb := hb0.trans (hb1.mono hb0.size)
    have ho1 := ho.next hbb
    go_wp2_with (first | (go_at_call 57; refine (l17Ok_c Ao no co o _ ho1 hno).mono ?_; rintro e w2 ⟨rfl, hb2⟩; have hp2 := hp1.next hb2; have hbb2 := hbb.trans (hb2.mono hbb.size); have ho2 := ho.next hbb2) | (go_at_call 58; refine (l17Tol_c _ _).mono ?_; rintro e w9 ⟨rfl, rfl⟩))
    refine (l17From_c _ _ A n c x Ao no co o start 2400 _ hp2 hv ho2 ok (by omega) (by omega)).mono ?_
    rw [hf]
    rintro e w3 ⟨rfl, hb3⟩
    go_wp2_with fail
    go_ret2
    exact ⟨rfl, hbb2.trans (hb3.mono hbb2.size)⟩
  · have hV : errV x o start = errI x o start := by simp [errV, HO.out, hf]
    have hK : errK x o start = 0 := by simp [errK, HO.out, hf]
    have hst := from_start hv (colB_E2 ok.col) hf
    rw [hV, hK]
    have HV := Lib.hid hV; clear hV
    have HK := Lib.hid hK; clear hK
    go_enter Try.func21, Try.ntmps21
    go_wp2_with fail
    refine (l05Ok_c _ _ _ _ _ x _ hp).mono ?_
    rintro e w1 ⟨rfl, hb1⟩
    have hp1 := hp.next hb1
    have hbb := hb0.trans (hb1.mono hb0.size)
    have ho1 := ho.next hbb
    go_wp2_with (first | (go_at_call 57; refine (l17Ok_c Ao no co o _ ho1 hno).mono ?_; rintro e w2 ⟨rfl, hb2⟩; have hp2 := hp1.next hb2; have hbb2 := hbb.trans (hb2.mono hbb.size); have ho2 := ho.next hbb2) | (go_at_call 58; refine (l17Tol_c _ _).mono ?_; rintro e w9 ⟨rfl, rfl⟩))
    refine (l17From_c _ _ A n c x Ao no co o start 2400 _ hp2 hv ho2 ok (by omega) (by omega)).mono ?_
    rw [hf]
    rintro e w3 ⟨rfl, hb3⟩
    have hbb3 := hbb2.trans (hb3.mono hbb2.size)
    go_wp2_with fail
    refine (l17Error_c _ _ A n c x Ao no co o start _ (hp2.next hb3) hv (ho.next hbb3) ok hst.1 hst.2).mono ?_
    rintro e w4 ⟨rfl, hb4⟩
    go_wp2_with fail
    go_ret2
    exact ⟨rfl, hbb3.trans (hb4.mono hbb3.size)⟩
set_option maxRecDepth 100000 in
set_option maxHeartbeats 2000000 in
theorem implError_c (A : Option Addr) (n c : Nat) (x : Ch) (w : World) (sl : Sl w w.heap.size 1 A n (x.gs.flatMap intC)) (hn : n ≤ 1048576) (hlz : x.l.size ≤ 1048576) (hs : x.cs.size ≤ 1048576) (Ao : Option Addr) (no co : Nat) (o : List Ph) (ho : Sl w w.heap.size 2 Ao no (o.flatMap Ph.cells)) (hno : no ≤ 1048576) (start : Int) (hsz : ∀ p ∈ o, p.c.size ≤ maxLen) :
    Calls Try.prog 22 #[chV x.k A n c x.l x.cs x.p, .slice Ao no co, .int .i64 start] w fun e w' => e = .returned (.tuple #[.int .i64 (errV x o start), .int .i64 (errK x o start)]) ∧ Below w.heap.size w w' := by
  have hb0 : Below w.heap.size w (w.alloc (.cells #[.int .i64 x.k, .slice A n c, .string x.l, .string x.cs, .int .i64 x.p] 30)) := by (repeat (first | (with_reducible assumption) | (with_reducible exact Below.refl _ _) | exact Nat.le_refl _ | exact Below.size (by with_reducible assumption) | (with_reducible refine Below.drew ?_) | (with_reducible refine below_drewN ?_ _) | (with_reducible refine Below.alloc ?_ ?_ _) | (with_reducible refine Below.setCell ?_ ?_ _) | (with_reducible refine le_alloc ?_ _) | (with_reducible refine le_set ?_ _ _) | (with_reducible refine le_drew ?_) | (with_reducible refine le_drewN ?_ _) | omega | (dsimp only; omega)))
  have sl0 := sl.next hb0
  have hl := ho.len Ph.cells 2 Ph.cells_len (by omega)
  have Hl := Lib.hid hl; clear hl
  cases hv : validB x
  · have hO : okCO x o = false := by rw [okCO, hv]; rfl
    have HO := Lib.hid hO; clear hO
    go_enter Try.func22, Try.ntmps22
    go_wp2_with fail
    refine (implValid_c A n c x _ sl0 hn hlz hs).mono ?_
    rintro e w1 ⟨rfl, hb1⟩
    have q1 := keepC hb1 w.heap.size (by simp)
    have z1 : w.heap.size < w1.heap.size := Nat.lt_of_lt_of_le (by simp) hb1.size
    have sl1 := sl0.next hb1
    have hbb := hb0.trans (hb1.mono hb0.size)
    have ho1 := ho.next hbb
    go_wp2_with (first | (go_at_call 63; refine (validObs_c Ao no co o _ ho1 hno hsz).mono ?_; rintro e w2 ⟨rfl, hb2⟩; have sl2 := sl1.next hb2; have q2 := keepC hb2 w.heap.size z1; have z2 := Nat.lt_of_lt_of_le z1 hb2.size; have hbb2 := hbb.trans (hb2.mono hbb.size); have ho2 := ho.next hbb2) | (go_at_call 64; refine (isSlack_c _ _).mono ?_; rintro e w9 ⟨rfl, rfl⟩))
    go_ret2
    exact ⟨by simp [errV, errK, HO.out], hbb⟩
  cases hob : obsB o
  · have hO : okCO x o = false := by rw [okCO, hv, hob]; rfl
    have HO := Lib.hid hO; clear hO
    go_enter Try.func22, Try.ntmps22
    go_wp2_with fail
    refine (implValid_c A n c x _ sl0 hn hlz hs).mono ?_
    rintro e w1 ⟨rfl, hb1⟩
    have q1 := keepC hb1 w.heap.size (by simp)
    have z1 : w.heap.size < w1.heap.size := Nat.lt_of_lt_of_le (by simp) hb1.size
    have sl1 := sl0.next hb1
    have hbb := hb0.trans (hb1.mono hb0.size)
    have ho1 := ho.next hbb
    go_wp2_with (first | (go_at_call 63; refine (validObs_c Ao no co o _ ho1 hno hsz).mono ?_; rintro e w2 ⟨rfl, hb2⟩; have sl2 := sl1.next hb2; have q2 := keepC hb2 w.heap.size z1; have z2 := Nat.lt_of_lt_of_le z1 hb2.size; have hbb2 := hbb.trans (hb2.mono hbb.size); have ho2 := ho.next hbb2) | (go_at_call 64; refine (isSlack_c _ _).mono ?_; rintro e w9 ⟨rfl, rfl⟩))
    go_ret2
    exact ⟨by simp [errV, errK, HO.out], hbb2⟩
  have hO : okCO x o = true := by rw [okCO, hv, hob]; rfl
  have HO := Lib.hid hO; clear hO
  have ok := obsB_ok hob Hl.out
  cases hf : fromB x o start 2400
  · have hV : errV x o start = 0 := by simp [errV, HO.out, hf]
    have hK : errK x o start = 3 := by simp [errK, HO.out, hf]
    rw [hV, hK]
    have HV := Lib.hid hV; clear hV
    have HK := Lib.hid hK; clear hK
    go_enter Try.func22, Try.ntmps22
    go_wp2_with fail
    refine (implValid_c A n c x _ sl0 hn hlz hs).mono ?_
    rintro e w1 ⟨rfl, hb1⟩
    have q1 := keepC hb1 w.heap.size (by simp)
    have z1 : w.heap.size < w1.heap.size := Nat.lt_of_lt_of_le (by simp) hb1.size
    have sl1 := sl0.next hb1
    have hbb := hb0.trans (hb1.mono hb0.size)
    have ho1 := ho.next hbb
    go_wp2_with (first | (go_at_call 63; refine (validObs_c Ao no co o _ ho1 hno hsz).mono ?_; rintro e w2 ⟨rfl, hb2⟩; have sl2 := sl1.next hb2; have q2 := keepC hb2 w.heap.size z1; have z2 := Nat.lt_of_lt_of_le z1 hb2.size; have hbb2 := hbb.trans (hb2.mono hbb.size); have ho2 := ho.next hbb2) | (go_at_call 64; refine (isSlack_c _ _).mono ?_; rintro e w9 ⟨rfl, rfl⟩))
    refine (canBegin_c A n c x _ sl2 hn hlz hs Ao no co o start 2400 hv ho2 ok (by omega) (by omega)).mono ?_
    rw [hf]
    rintro e w3 ⟨rfl, hb3⟩
    go_wp2_with fail
    go_ret2
    exact ⟨rfl, hbb2.trans (hb3.mono hbb2.size)⟩
  · have hV : errV x o start = errI x o start := by simp [errV, HO.out, hf]
    have hK : errK x o start = 0 := by simp [errK, HO.out, hf]
    have hst := from_start hv (colB_E2 ok.col) hf
    rw [hV, hK]
    have HV := Lib.hid hV; clear hV
    have HK := Lib.hid hK; clear hK
    go_enter Try.func22, Try.ntmps22
    go_wp2_with fail
    refine (implValid_c A n c x _ sl0 hn hlz hs).mono ?_
    rintro e w1 ⟨rfl, hb1⟩
    have q1 := keepC hb1 w.heap.size (by simp)
    have z1 : w.heap.size < w1.heap.size := Nat.lt_of_lt_of_le (by simp) hb1.size
    have sl1 := sl0.next hb1
    have hbb := hb0.trans (hb1.mono hb0.size)
    have ho1 := ho.next hbb
    go_wp2_with (first | (go_at_call 63; refine (validObs_c Ao no co o _ ho1 hno hsz).mono ?_; rintro e w2 ⟨rfl, hb2⟩; have sl2 := sl1.next hb2; have q2 := keepC hb2 w.heap.size z1; have z2 := Nat.lt_of_lt_of_le z1 hb2.size; have hbb2 := hbb.trans (hb2.mono hbb.size); have ho2 := ho.next hbb2) | (go_at_call 64; refine (isSlack_c _ _).mono ?_; rintro e w9 ⟨rfl, rfl⟩))
    refine (canBegin_c A n c x _ sl2 hn hlz hs Ao no co o start 2400 hv ho2 ok (by omega) (by omega)).mono ?_
    rw [hf]
    rintro e w3 ⟨rfl, hb3⟩
    have q3 := keepC hb3 w.heap.size z2
    have hbb3 := hbb2.trans (hb3.mono hbb2.size)
    go_wp2_with fail
    refine (errorFrom_c A n c x _ (sl2.next hb3) hn hlz hs Ao no co o start hv (ho.next hbb3) ok hst.1 hst.2).mono ?_
    rintro e w4 ⟨rfl, hb4⟩
    go_wp2_with fail
    go_ret2
    exact ⟨rfl, hbb3.trans (hb4.mono hbb3.size)⟩
end Go.Proofs.Ytgfplmfdgbklkaa
