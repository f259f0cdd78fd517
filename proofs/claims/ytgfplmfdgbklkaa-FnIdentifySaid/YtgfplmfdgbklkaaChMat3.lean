/- MatchFrom, both sides. -/
import Derived.Test.YtgfplmfdgbklkaaChMat2
namespace Go.Proofs.Ytgfplmfdgbklkaa
open Go.RowKit
def matchV (x : Ch) (o : List Ph) (start tol : Int) : Bool := validB x && (obsB o && (inB tol 0 100 && fromB x o start tol))
set_option maxHeartbeats 400000 in
theorem l17Tol_c (n : Int) (w : World) : Calls Try.prog 58 #[.int .i64 n] w fun e w' => e = .returned (.bool (inB n 0 100)) ∧ w = w' := by
  go_enter Try.func58, Try.ntmps58
  go_wp2_with (go_at_call 72; refine (l00In_c _ _ _ _).mono ?_; rintro e w1 ⟨rfl, rfl⟩)
  go_ret
  exact ⟨rfl, rfl⟩
set_option maxHeartbeats 400000 in
theorem isSlack_c (n : Int) (w : World) : Calls Try.prog 64 #[.int .i64 n] w fun e w' => e = .returned (.bool (inB n 0 100)) ∧ w = w' := by
  go_enter Try.func64, Try.ntmps64
  go_wp2_with (go_at_call 99; refine (within_c _ _ _ _).mono ?_; rintro e w1 ⟨rfl, rfl⟩)
  go_ret
  exact ⟨rfl, rfl⟩
set_option maxRecDepth 100000 in
set_option maxHeartbeats 2000000 in
theorem implMatch_c (A : Option Addr) (n c : Nat) (x : Ch) (w : World) (sl : Sl w w.heap.size 1 A n (x.gs.flatMap intC)) (hn : n ≤ 1048576) (hlz : x.l.size ≤ 1048576) (hs : x.cs.size ≤ 1048576) (Ao : Option Addr) (no co : Nat) (o : List Ph) (ho : Sl w w.heap.size 2 Ao no (o.flatMap Ph.cells)) (hno : no ≤ 1048576) (start tol : Int) (hsz : ∀ p ∈ o, p.c.size ≤ maxLen) :
    Calls Try.prog 53 #[chV x.k A n c x.l x.cs x.p, .slice Ao no co, .int .i64 start, .int .i64 tol] w fun e w' => e = .returned (.bool (matchV x o start tol)) ∧ Below w.heap.size w w' := by
  have hb0 : Below w.heap.size w (w.alloc (.cells #[.int .i64 x.k, .slice A n c, .string x.l, .string x.cs, .int .i64 x.p] 30)) := by (repeat (first | (with_reducible assumption) | (with_reducible exact Below.refl _ _) | exact Nat.le_refl _ | exact Below.size (by with_reducible assumption) | (with_reducible refine Below.drew ?_) | (with_reducible refine below_drewN ?_ _) | (with_reducible refine Below.alloc ?_ ?_ _) | (with_reducible refine Below.setCell ?_ ?_ _) | (with_reducible refine le_alloc ?_ _) | (with_reducible refine le_set ?_ _ _) | (with_reducible refine le_drew ?_) | (with_reducible refine le_drewN ?_ _) | omega | (dsimp only; omega)))
  have sl0 := sl.next hb0
  have hl := ho.len Ph.cells 2 Ph.cells_len (by omega)
  have Hl := Lib.hid hl; clear hl
  cases hv : validB x
  · have hM : matchV x o start tol = false := by rw [matchV, hv]; rfl
    rw [hM]
    have HM := Lib.hid hM; clear hM
    go_enter Try.func53, Try.ntmps53
    go_wp2_with fail
    refine (implValid_c A n c x _ sl0 hn hlz hs).mono ?_
    rintro e w1 ⟨rfl, hb1⟩
    have q1 := keepC hb1 w.heap.size (by simp)
    have z1 : w.heap.size < w1.heap.size := Nat.lt_of_lt_of_le (by simp) hb1.size
    have sl1 := sl0.next hb1
    have hbb := hb0.trans (hb1.mono hb0.size)
    have ho1 := ho.next hbb
    go_wp2_with (first | (go_at_call 63; refine (validObs_c Ao no co o _ ho1 hno hsz).mono ?_; rintro e w2 ⟨rfl, hb2⟩; have sl2 := sl1.next hb2; have q2 := keepC hb2 w.heap.size z1; have hbb2 := hbb.trans (hb2.mono hbb.size); have ho2 := ho.next hbb2) | (go_at_call 64; refine (isSlack_c _ _).mono ?_; rintro e w9 ⟨rfl, rfl⟩))
    go_ret
    exact ⟨rfl, hbb⟩
  cases hob : obsB o
  · have hM : matchV x o start tol = false := by rw [matchV, hv, hob]; rfl
    rw [hM]
    have HM := Lib.hid hM; clear hM
    go_enter Try.func53, Try.ntmps53
    go_wp2_with fail
    refine (implValid_c A n c x _ sl0 hn hlz hs).mono ?_
    rintro e w1 ⟨rfl, hb1⟩
    have q1 := keepC hb1 w.heap.size (by simp)
    have z1 : w.heap.size < w1.heap.size := Nat.lt_of_lt_of_le (by simp) hb1.size
    have sl1 := sl0.next hb1
    have hbb := hb0.trans (hb1.mono hb0.size)
    have ho1 := ho.next hbb
    go_wp2_with (first | (go_at_call 63; refine (validObs_c Ao no co o _ ho1 hno hsz).mono ?_; rintro e w2 ⟨rfl, hb2⟩; have sl2 := sl1.next hb2; have q2 := keepC hb2 w.heap.size z1; have hbb2 := hbb.trans (hb2.mono hbb.size); have ho2 := ho.next hbb2) | (go_at_call 64; refine (isSlack_c _ _).mono ?_; rintro e w9 ⟨rfl, rfl⟩))
    go_ret
    exact ⟨rfl, hbb2⟩
  cases hti : inB tol 0 100
  · have hM : matchV x o start tol = false := by rw [matchV, hv, hob, hti]; rfl
    rw [hM]
    have HM := Lib.hid hM; clear hM
    go_enter Try.func53, Try.ntmps53
    go_wp2_with fail
    refine (implValid_c A n c x _ sl0 hn hlz hs).mono ?_
    rintro e w1 ⟨rfl, hb1⟩
    have q1 := keepC hb1 w.heap.size (by simp)
    have z1 : w.heap.size < w1.heap.size := Nat.lt_of_lt_of_le (by simp) hb1.size
    have sl1 := sl0.next hb1
    have hbb := hb0.trans (hb1.mono hb0.size)
    have ho1 := ho.next hbb
    go_wp2_with (first | (go_at_call 63; refine (validObs_c Ao no co o _ ho1 hno hsz).mono ?_; rintro e w2 ⟨rfl, hb2⟩; have sl2 := sl1.next hb2; have q2 := keepC hb2 w.heap.size z1; have hbb2 := hbb.trans (hb2.mono hbb.size); have ho2 := ho.next hbb2) | (go_at_call 64; refine (isSlack_c _ _).mono ?_; rintro e w9 ⟨rfl, rfl⟩))
    go_ret
    exact ⟨rfl, hbb2⟩
  · have hM : matchV x o start tol = fromB x o start tol := by rw [matchV, hv, hob, hti]; rfl
    rw [hM]
    have HM := Lib.hid hM; clear hM
    have ok := obsB_ok hob Hl.out
    obtain ⟨t0, t1⟩ := inB_iff.1 hti
    have t2 : tol ≤ 1000000 := by omega
    go_enter Try.func53, Try.ntmps53
    go_wp2_with fail
    refine (implValid_c A n c x _ sl0 hn hlz hs).mono ?_
    rintro e w1 ⟨rfl, hb1⟩
    have q1 := keepC hb1 w.heap.size (by simp)
    have z1 : w.heap.size < w1.heap.size := Nat.lt_of_lt_of_le (by simp) hb1.size
    have sl1 := sl0.next hb1
    have hbb := hb0.trans (hb1.mono hb0.size)
    have ho1 := ho.next hbb
    go_wp2_with (first | (go_at_call 63; refine (validObs_c Ao no co o _ ho1 hno hsz).mono ?_; rintro e w2 ⟨rfl, hb2⟩; have sl2 := sl1.next hb2; have q2 := keepC hb2 w.heap.size z1; have hbb2 := hbb.trans (hb2.mono hbb.size); have ho2 := ho.next hbb2) | (go_at_call 64; refine (isSlack_c _ _).mono ?_; rintro e w9 ⟨rfl, rfl⟩))
    refine (canBegin_c A n c x _ sl2 hn hlz hs Ao no co o start tol hv ho2 ok t0 t2).mono ?_
    rintro e w3 ⟨rfl, hb3⟩
    go_wp2_with fail
    go_ret
    exact ⟨ret_eq (bool_eq (by simp)), hbb2.trans (hb3.mono hbb2.size)⟩
end Go.Proofs.Ytgfplmfdgbklkaa
