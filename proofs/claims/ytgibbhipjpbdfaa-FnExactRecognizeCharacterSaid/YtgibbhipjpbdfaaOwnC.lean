
/- Lists and characters of the call's own: the reference. -/
import Derived.Test.YtgibbhipjpbdfaaIntS
import Derived.Test.YtgibbhipjpbdfaaApp
import Derived.Test.YtgibbhipjpbdfaaChValid
namespace Go.Proofs.Ytgibbhipjpbdfaa
open Go.RowKit
set_option maxHeartbeats 1000000 in
theorem l00OwnR_c (A : Option Addr) (n c : Nat) (xs : List Int) (w : World) (h : Sl w w.heap.size 1 A n (xs.flatMap intC)) (hm : n ≤ 1048576) :
    Calls Try.prog 81 #[.slice A n c] w fun e w' => ∃ A' c', e = .returned (.slice A' n c') ∧ w'.ownsRow w.heap.size 2 1 (.slice A' n c') n (xs.flatMap intC) ∧ Below w.heap.size w w' := by
  obtain ⟨i0, hi, hz0, hz1, hz2⟩ := info_parts intInfo
  have hov := World.ownsRow_made (base := w.heap.size) (e := 2) (size := 1) w #[] 0 (Nat.le_refl _) (by simp [maxLen]) rfl
  have hbv : Below w.heap.size w (w.alloc (.cells #[] 2)) := (Below.refl _ _).alloc (Nat.le_refl _) _
  have e63 : 0 + n ≤ maxLen := by unfold maxLen; omega
  have e32 : (0 + n) * 8 ≤ 140737488355328 := by omega
  have hS := h.next hbv
  have hle := hbv.size
  have HOV := Lib.hid hov; clear hov
  have E63 := Lib.hid e63; clear e63
  have E32 := Lib.hid e32; clear e32
  have HS := Lib.hid hS; clear hS
  have HLE := Lib.hid hle; clear hle
  go_enter Try.func81, Try.ntmps81
  go_wp2_with (at_builtin; refine wpl_append _ rfl (.tmp 3) (.tmp 4) _ rfl w.heap.size 2 i0 _ 1 8 Try.underlying24 hi hz0 hz1 hz2 rfl (by omega) _ 0 _ rfl HOV.out _ A n c (xs.flatMap intC) rfl HS.out (flat_one _ intC_one xs) E63.out E32.out HLE.out ?_; intro v2 w2 ho2 hg2 hat2)
  go_ret
  rw [Nat.zero_add] at ho2
  obtain ⟨A', c', rfl⟩ := own_slice ho2
  exact ⟨A', c', rfl, by simpa using ho2, hbv.grown hg2 HLE.out fun g hg => (HOV.out.lt g hg).1⟩
set_option maxRecDepth 100000 in
set_option maxHeartbeats 1000000 in
theorem l05OwnR_c (b o : Nat) (A : Option Addr) (n c : Nat) (x : Ch) (w : World) (h : ChP w b o A n c x) :
    Calls Try.prog 46 #[.pointer (some ⟨b, o, none⟩)] w fun e w' => ∃ A' c', e = .returned (chV x.k A' n c' x.l x.cs x.p) ∧ w'.ownsRow w.heap.size 2 1 (.slice A' n c') n (x.gs.flatMap intC) ∧ Below w.heap.size w w' := by
  obtain ⟨k, gs, l, cs, p⟩ := x
  obtain ⟨c0, c1, c2, c3, c4, hb, sl, hn, hl, hs⟩ := h
  simp only at c0 c1 c2 c3 c4 sl hl hs
  go_enter Try.func46, Try.ntmps46
  go_wp2_with fail
  refine (l00OwnR_c A n c gs _ (sl.next (by (repeat (first | (with_reducible assumption) | (with_reducible exact Below.refl _ _) | exact Nat.le_refl _ | exact Below.size (by with_reducible assumption) | (with_reducible refine Below.drew ?_) | (with_reducible refine below_drewN ?_ _) | (with_reducible refine Below.alloc ?_ ?_ _) | (with_reducible refine Below.setCell ?_ ?_ _) | (with_reducible refine le_alloc ?_ _) | (with_reducible refine le_set ?_ _ _) | (with_reducible refine le_drew ?_) | (with_reducible refine le_drewN ?_ _) | omega | (dsimp only; omega))))) hn).mono ?_
  rintro e w1 ⟨A1, c1', rfl, ho, hb1⟩
  have q0 := keepC hb1 w.heap.size (by simp only [World.size_alloc]; omega)
  have q1 := keepC hb1 (w.heap.size + 1) (by simp only [World.size_alloc]; omega)
  have f0 := keepF hb1 w.heap.size (by simp only [World.size_alloc]; omega)
  have f1 := keepF hb1 (w.heap.size + 1) (by simp only [World.size_alloc]; omega)
  have hbw : Below w.heap.size w w1 := Below.trans (by (repeat (first | (with_reducible assumption) | (with_reducible exact Below.refl _ _) | exact Nat.le_refl _ | exact Below.size (by with_reducible assumption) | (with_reducible refine Below.drew ?_) | (with_reducible refine below_drewN ?_ _) | (with_reducible refine Below.alloc ?_ ?_ _) | (with_reducible refine Below.setCell ?_ ?_ _) | (with_reducible refine le_alloc ?_ _) | (with_reducible refine le_set ?_ _ _) | (with_reducible refine le_drew ?_) | (with_reducible refine le_drewN ?_ _) | omega | (dsimp only; omega)))) (hb1.mono (by simp only [World.size_alloc]; omega))
  clear c0 c1 c2 c3 c4
  go_wp2_with fail
  refine bodyPost_ret (v := chV k A1 n c1' l cs p) (by simp [results, Try.results46, go_sem, q0]) rfl ⟨A1, c1', rfl, ?_, ?_⟩
  · refine own_base (base := ((w.heap.size + 1) + 1)) ?_ (by omega)
    simp only [World.size_alloc] at ho
    repeat (refine ownsRow_setCell_below ?_ (by dsimp only; omega) _)
    exact ho
  · (repeat (first | (with_reducible assumption) | (with_reducible exact Below.refl _ _) | exact Nat.le_refl _ | exact Below.size (by with_reducible assumption) | (with_reducible refine Below.drew ?_) | (with_reducible refine below_drewN ?_ _) | (with_reducible refine Below.alloc ?_ ?_ _) | (with_reducible refine Below.setCell ?_ ?_ _) | (with_reducible refine le_alloc ?_ _) | (with_reducible refine le_set ?_ _ _) | (with_reducible refine le_drew ?_) | (with_reducible refine le_drewN ?_ _) | omega | (dsimp only; omega)))
end Go.Proofs.Ytgibbhipjpbdfaa
