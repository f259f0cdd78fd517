
/- The laws' own functions over one aid. -/
import Derived.Test.YtpfnnjcochhklaaGreatDoorAid
import Derived.Test.YtpfnnjcochhklaaGreatDoorSecLaw
namespace Go.Proofs.YtpfnnjcochhklaaGreatDoor
open Go.RowKit
set_option maxRecDepth 100000 in
set_option maxHeartbeats 400000 in
theorem szMark_c (m : Mk) (left : Int) (w : World) (h1 : m.cs.size ≤ maxLen) (h2 : m.sh.size ≤ maxLen) (h3 : m.tp.size ≤ maxLen) (h0 : 0 ≤ left) (hl : left ≤ 1048576) :
    Calls Tryz.prog 53 #[m.val, .int .i64 left] w fun e w' => ∃ r : Int, e = .returned (.int .i64 r) ∧ (r = -1 ∨ 0 ≤ r ∧ r + m.cs.size + m.sh.size + m.tp.size ≤ left) ∧ Below w.heap.size w w' := by
  unfold maxLen at h1 h2 h3
  go_enter Tryz.func53, Tryz.ntmps53
  go_wp2
  · go_ret
    exact ⟨-1, rfl, .inl rfl, (by (repeat (first | (with_reducible assumption) | (with_reducible exact Below.refl _ _) | exact Nat.le_refl _ | exact Below.size (by with_reducible assumption) | (with_reducible refine Below.drew ?_) | (with_reducible refine below_drewN ?_ _) | (with_reducible refine Below.alloc ?_ ?_ _) | (with_reducible refine Below.setCell ?_ ?_ _) | (with_reducible refine le_alloc ?_ _) | (with_reducible refine le_set ?_ _ _) | (with_reducible refine le_drew ?_) | (with_reducible refine le_drewN ?_ _) | omega | (dsimp only; omega))))⟩
  · go_ret
    exact ⟨-1, rfl, .inl rfl, (by (repeat (first | (with_reducible assumption) | (with_reducible exact Below.refl _ _) | exact Nat.le_refl _ | exact Below.size (by with_reducible assumption) | (with_reducible refine Below.drew ?_) | (with_reducible refine below_drewN ?_ _) | (with_reducible refine Below.alloc ?_ ?_ _) | (with_reducible refine Below.setCell ?_ ?_ _) | (with_reducible refine le_alloc ?_ _) | (with_reducible refine le_set ?_ _ _) | (with_reducible refine le_drew ?_) | (with_reducible refine le_drewN ?_ _) | omega | (dsimp only; omega))))⟩
  · go_ret
    exact ⟨-1, rfl, .inl rfl, (by (repeat (first | (with_reducible assumption) | (with_reducible exact Below.refl _ _) | exact Nat.le_refl _ | exact Below.size (by with_reducible assumption) | (with_reducible refine Below.drew ?_) | (with_reducible refine below_drewN ?_ _) | (with_reducible refine Below.alloc ?_ ?_ _) | (with_reducible refine Below.setCell ?_ ?_ _) | (with_reducible refine le_alloc ?_ _) | (with_reducible refine le_set ?_ _ _) | (with_reducible refine le_drew ?_) | (with_reducible refine le_drewN ?_ _) | omega | (dsimp only; omega))))⟩
  · go_ret
    exact ⟨_, rfl, .inr ⟨by omega, by omega⟩, (by (repeat (first | (with_reducible assumption) | (with_reducible exact Below.refl _ _) | exact Nat.le_refl _ | exact Below.size (by with_reducible assumption) | (with_reducible refine Below.drew ?_) | (with_reducible refine below_drewN ?_ _) | (with_reducible refine Below.alloc ?_ ?_ _) | (with_reducible refine Below.setCell ?_ ?_ _) | (with_reducible refine le_alloc ?_ _) | (with_reducible refine le_set ?_ _ _) | (with_reducible refine le_drew ?_) | (with_reducible refine le_drewN ?_ _) | omega | (dsimp only; omega))))⟩
set_option maxRecDepth 100000 in
set_option maxHeartbeats 1000000 in
theorem szAid_c (z : AidG) (left : Int) (w : World) (h : AidRd w z) (h0 : 0 ≤ left) (hl : left ≤ 1048576) :
    Calls Tryz.prog 33 #[z.val, .int .i64 left] w fun e w' => ∃ r : Int, e = .returned (.int .i64 r) ∧ (r = -1 ∨ 0 ≤ r ∧ r ≤ left ∧ AidBd z.a) ∧ Below w.heap.size w w' := by
  obtain ⟨⟨num, nm, x, y, hh, ⟨mk, mcs, msh, mtp⟩, ⟨ck, gs, l, cs, p⟩, secs, it⟩, A, c, B, d⟩ := z
  have hss := h.ss
  obtain ⟨_, _, h1, h2, h3, h4, h5, h6, h7, h8, h9⟩ := h
  simp only [AidG.n, AidG.m] at *
  have hb0 : Below w.heap.size w (w.alloc (aidO ⟨⟨num, nm, x, y, hh, ⟨mk, mcs, msh, mtp⟩, ⟨ck, gs, l, cs, p⟩, secs, it⟩, A, c, B, d⟩ 71)) := by (repeat (first | (with_reducible assumption) | (with_reducible exact Below.refl _ _) | exact Nat.le_refl _ | exact Below.size (by with_reducible assumption) | (with_reducible refine Below.drew ?_) | (with_reducible refine below_drewN ?_ _) | (with_reducible refine Below.alloc ?_ ?_ _) | (with_reducible refine Below.setCell ?_ ?_ _) | (with_reducible refine le_alloc ?_ _) | (with_reducible refine le_set ?_ _ _) | (with_reducible refine le_drew ?_) | (with_reducible refine le_drewN ?_ _) | omega | (dsimp only; omega)))
  replace hss := hss.next hb0
  simp only [aidO, AidG.cells, AidG.n, AidG.m] at hb0 hss
  unfold maxLen at h1
  go_enter Tryz.func33, Tryz.ntmps33
  go_wp2_with fail
  · go_ret
    exact ⟨-1, rfl, .inl rfl, hb0⟩
  refine (szMark_c ⟨mk, mcs, msh, mtp⟩ _ _ h2 h3 h4 (by omega) (by omega)).mono ?_
  rintro e w1 ⟨r1, rfl, hr1, hb1⟩
  simp only at hr1
  have q1 := keepC hb1 w.heap.size (by simp)
  replace hss := hss.next hb1
  have z1 : w.heap.size < w1.heap.size := Nat.lt_of_lt_of_le (by simp) hb1.size
  replace hb1 := hb0.trans (hb1.mono hb0.size)
  go_wp2_with fail
  · go_ret
    exact ⟨-1, rfl, .inl rfl, hb1⟩
  replace hr1 : 0 ≤ r1 ∧ r1 + mcs.size + msh.size + mtp.size ≤ left - nm.size := by omega
  refine (szCharacter_c ck A gs.length c l cs p r1 _ h5 h6 h7 (by omega) (by omega)).mono ?_
  rintro e w2 ⟨r2, rfl, hr2, hb2⟩
  have q2 := keepC hb2 w.heap.size z1
  replace hss := hss.next hb2
  have z2 := Nat.lt_of_lt_of_le z1 hb2.size
  replace hb2 := hb1.trans (hb2.mono hb1.size)
  go_wp2_with fail
  · go_ret
    exact ⟨-1, rfl, .inl rfl, hb2⟩
  replace hr2 : 0 ≤ r2 ∧ r2 ≤ r1 ∧ gs.length ≤ r1 ∧ l.size ≤ r1 ∧ cs.size ≤ r1 := by omega
  refine (szSectorS_c B secs.length d secs r2 _ hss h8 h9 (by omega) (by omega)).mono ?_
  rintro e w3 ⟨r3, rfl, hr3, hb3⟩
  have Hr3 := Lib.hid hr3; clear hr3
  by_cases h10 : r3 < 0
  · go_wp2_with fail
    go_ret
    exact ⟨-1, rfl, .inl rfl, hb2.trans (hb3.mono hb2.size)⟩
  · go_wp2_with fail
    go_ret
    have hr3 := Hr3.out
    rcases hr3 with hr3 | ⟨a1, a2, a3⟩
    · omega
    · exact ⟨r3, rfl, .inr ⟨by omega, by omega, ⟨by dsimp only; omega, by dsimp only; omega, by dsimp only; omega, by dsimp only; omega, by dsimp only; omega, by dsimp only; omega, by dsimp only; omega, by dsimp only; omega, a3⟩⟩, hb2.trans (hb3.mono hb2.size)⟩
set_option maxHeartbeats 400000 in
theorem toPoint_c (x y : Int) (w : World) : Calls Tryz.prog 58 #[ptV x y] w fun e w' => e = .returned (ptV x y) ∧ Below w.heap.size w w' := by
  go_enter Tryz.func58, Tryz.ntmps58
  go_wp2
  exact bodyPost_ret (v := ptV x y) (by simp [results, Tryz.results58, go_sem]) rfl ⟨rfl, by (repeat (first | (with_reducible assumption) | (with_reducible exact Below.refl _ _) | exact Nat.le_refl _ | exact Below.size (by with_reducible assumption) | (with_reducible refine Below.drew ?_) | (with_reducible refine below_drewN ?_ _) | (with_reducible refine Below.alloc ?_ ?_ _) | (with_reducible refine Below.setCell ?_ ?_ _) | (with_reducible refine le_alloc ?_ _) | (with_reducible refine le_set ?_ _ _) | (with_reducible refine le_drew ?_) | (with_reducible refine le_drewN ?_ _) | omega | (dsimp only; omega)))⟩
set_option maxHeartbeats 400000 in
theorem toMark_c (m : Mk) (w : World) : Calls Tryz.prog 59 #[m.val] w fun e w' => e = .returned m.val ∧ Below w.heap.size w w' := by
  go_enter Tryz.func59, Tryz.ntmps59
  go_wp2
  exact bodyPost_ret (v := m.val) (by simp [results, Tryz.results59, go_sem]) rfl ⟨rfl, by (repeat (first | (with_reducible assumption) | (with_reducible exact Below.refl _ _) | exact Nat.le_refl _ | exact Below.size (by with_reducible assumption) | (with_reducible refine Below.drew ?_) | (with_reducible refine below_drewN ?_ _) | (with_reducible refine Below.alloc ?_ ?_ _) | (with_reducible refine Below.setCell ?_ ?_ _) | (with_reducible refine le_alloc ?_ _) | (with_reducible refine le_set ?_ _ _) | (with_reducible refine le_drew ?_) | (with_reducible refine le_drewN ?_ _) | omega | (dsimp only; omega)))⟩
set_option maxHeartbeats 400000 in
theorem eqPoint_c (x y : Int) (w : World) : Calls Tryz.prog 62 #[ptV x y, ptV x y] w fun e w' => e = .returned (.bool true) ∧ Below w.heap.size w w' := by
  go_enter Tryz.func62, Tryz.ntmps62
  go_wp2
  go_ret
  exact ⟨rfl, by (repeat (first | (with_reducible assumption) | (with_reducible exact Below.refl _ _) | exact Nat.le_refl _ | exact Below.size (by with_reducible assumption) | (with_reducible refine Below.drew ?_) | (with_reducible refine below_drewN ?_ _) | (with_reducible refine Below.alloc ?_ ?_ _) | (with_reducible refine Below.setCell ?_ ?_ _) | (with_reducible refine le_alloc ?_ _) | (with_reducible refine le_set ?_ _ _) | (with_reducible refine le_drew ?_) | (with_reducible refine le_drewN ?_ _) | omega | (dsimp only; omega)))⟩
set_option maxHeartbeats 400000 in
theorem eqMark_c (m : Mk) (w : World) : Calls Tryz.prog 63 #[m.val, m.val] w fun e w' => e = .returned (.bool true) ∧ Below w.heap.size w w' := by
  have ne : ∀ u : ByteArray, (u.toList != u.toList) = false := fun u => by simp
  go_enter Tryz.func63, Tryz.ntmps63
  go_wp2
  go_ret
  exact ⟨rfl, by (repeat (first | (with_reducible assumption) | (with_reducible exact Below.refl _ _) | exact Nat.le_refl _ | exact Below.size (by with_reducible assumption) | (with_reducible refine Below.drew ?_) | (with_reducible refine below_drewN ?_ _) | (with_reducible refine Below.alloc ?_ ?_ _) | (with_reducible refine Below.setCell ?_ ?_ _) | (with_reducible refine le_alloc ?_ _) | (with_reducible refine le_set ?_ _ _) | (with_reducible refine le_drew ?_) | (with_reducible refine le_drewN ?_ _) | omega | (dsimp only; omega)))⟩
/-- The new aid lies in memory of the call's own. -/
structure AidNew (w : World) (base : Nat) (z : AidG) : Prop where
  g : w.ownsRow base 2 1 (.slice z.A z.n z.c) z.n (z.a.ch.gs.flatMap intC)
  s : w.ownsRow base 94 3 (.slice z.B z.m z.d) z.m (z.a.secs.flatMap Sec.cells)
theorem AidNew.next {w w' : World} {base : Nat} {z : AidG} (h : AidNew w base z) (hb : Below w.heap.size w w') : AidNew w' base z := ⟨own_next h.g hb, own_next h.s hb⟩
theorem AidNew.ok {w : World} {base : Nat} {z : AidG} (h : AidNew w base z) (b : AidBd z.a) : AidOk w z := ⟨Sl.of_own h.g, Sl.of_own h.s, b⟩
set_option maxRecDepth 100000 in
set_option maxHeartbeats 2000000 in
theorem toAid_c (z : AidG) (w : World) (h : AidOk w z) :
    Calls Tryz.prog 35 #[z.val] w fun e w' => ∃ z' : AidG, e = .returned z'.val ∧ z'.a = z.a ∧ AidNew w' w.heap.size z' ∧ Below w.heap.size w w' := by
  obtain ⟨⟨num, nm, x, y, hh, ⟨mk, mcs, msh, mtp⟩, ⟨ck, gs, l, cs, p⟩, secs, it⟩, A, c, B, d⟩ := z
  obtain ⟨sl, ss, bd⟩ := h
  have hg := bd.gs
  have hm := bd.ss
  simp only [AidG.n, AidG.m] at *
  go_enter Tryz.func35, Tryz.ntmps35
  go_wp2_with fail
  refine (toPoint_c x y _).mono ?_
  rintro e w1 ⟨rfl, hb1⟩
  have q0 := keepC hb1 w.heap.size (by first | (simp; done) | (simp; omega))
  have p1 := keepC hb1 (w.heap.size + 1) (by first | (simp; done) | (simp; omega))
  have q2 := keepC hb1 (w.heap.size + 1 + 1) (by first | (simp; done) | (simp; omega))
  have f1 := keepF hb1 (w.heap.size + 1) (by first | (simp; done) | (simp; omega))
  have f2 := keepF hb1 (w.heap.size + 1 + 1) (by first | (simp; done) | (simp; omega))
  have z1 := hb1.size
  simp at z1
  have bw1 : Below w.heap.size w w1 := Below.trans (by (repeat (first | (with_reducible assumption) | (with_reducible exact Below.refl _ _) | exact Nat.le_refl _ | exact Below.size (by with_reducible assumption) | (with_reducible refine Below.drew ?_) | (with_reducible refine below_drewN ?_ _) | (with_reducible refine Below.alloc ?_ ?_ _) | (with_reducible refine Below.setCell ?_ ?_ _) | (with_reducible refine le_alloc ?_ _) | (with_reducible refine le_set ?_ _ _) | (with_reducible refine le_drew ?_) | (with_reducible refine le_drewN ?_ _) | omega | (dsimp only; omega)))) (hb1.mono (by first | (simp; done) | (simp; omega)))
  clear hb1
  go_wp2_with fail
  refine (toMark_c ⟨mk, mcs, msh, mtp⟩ _).mono ?_
  rintro e w2 ⟨rfl, hb2⟩
  have q0 := keepC hb2 w.heap.size (by first | (simp; done) | (simp; omega))
  have p2 := keepC hb2 (w.heap.size + 1) (by first | (simp; done) | (simp; omega))
  have q2 := keepC hb2 (w.heap.size + 1 + 1) (by first | (simp; done) | (simp; omega))
  have f1 := keepF hb2 (w.heap.size + 1) (by first | (simp; done) | (simp; omega))
  have f2 := keepF hb2 (w.heap.size + 1 + 1) (by first | (simp; done) | (simp; omega))
  have z2 := hb2.size
  simp at z2
  have bw2 : Below w.heap.size w w2 := Below.trans (by (repeat (first | (with_reducible assumption) | (with_reducible exact Below.refl _ _) | exact Nat.le_refl _ | exact Below.size (by with_reducible assumption) | (with_reducible refine Below.drew ?_) | (with_reducible refine below_drewN ?_ _) | (with_reducible refine Below.alloc ?_ ?_ _) | (with_reducible refine Below.setCell ?_ ?_ _) | (with_reducible refine le_alloc ?_ _) | (with_reducible refine le_set ?_ _ _) | (with_reducible refine le_drew ?_) | (with_reducible refine le_drewN ?_ _) | omega | (dsimp only; omega)))) (hb2.mono (by first | (simp; done) | (simp; omega)))
  clear hb2
  go_wp2_with fail
  refine (toCharacter_c ck A gs.length c l cs p gs _ (sl.next (by (repeat (first | (with_reducible assumption) | (with_reducible exact Below.refl _ _) | exact Nat.le_refl _ | exact Below.size (by with_reducible assumption) | (with_reducible refine Below.drew ?_) | (with_reducible refine below_drewN ?_ _) | (with_reducible refine Below.alloc ?_ ?_ _) | (with_reducible refine Below.setCell ?_ ?_ _) | (with_reducible refine le_alloc ?_ _) | (with_reducible refine le_set ?_ _ _) | (with_reducible refine le_drew ?_) | (with_reducible refine le_drewN ?_ _) | omega | (dsimp only; omega))))) hg).mono ?_
  rintro e w3 ⟨A3, c3, rfl, ho3, hb3⟩
  have q0 := keepC hb3 w.heap.size (by first | (simp; done) | (simp; omega))
  have p3 := keepC hb3 (w.heap.size + 1) (by first | (simp; done) | (simp; omega))
  have q2 := keepC hb3 (w.heap.size + 1 + 1) (by first | (simp; done) | (simp; omega))
  have f1 := keepF hb3 (w.heap.size + 1) (by first | (simp; done) | (simp; omega))
  have f2 := keepF hb3 (w.heap.size + 1 + 1) (by first | (simp; done) | (simp; omega))
  have z3 := hb3.size
  simp at z3
  have bw3 : Below w.heap.size w w3 := Below.trans (by (repeat (first | (with_reducible assumption) | (with_reducible exact Below.refl _ _) | exact Nat.le_refl _ | exact Below.size (by with_reducible assumption) | (with_reducible refine Below.drew ?_) | (with_reducible refine below_drewN ?_ _) | (with_reducible refine Below.alloc ?_ ?_ _) | (with_reducible refine Below.setCell ?_ ?_ _) | (with_reducible refine le_alloc ?_ _) | (with_reducible refine le_set ?_ _ _) | (with_reducible refine le_drew ?_) | (with_reducible refine le_drewN ?_ _) | omega | (dsimp only; omega)))) (hb3.mono (by first | (simp; done) | (simp; omega)))
  clear hb3
  go_wp2_with fail
  refine (toSectorS_c B secs.length d secs _ (ss.next (by (repeat (first | (with_reducible assumption) | (with_reducible exact Below.refl _ _) | exact Nat.le_refl _ | exact Below.size (by with_reducible assumption) | (with_reducible refine Below.drew ?_) | (with_reducible refine below_drewN ?_ _) | (with_reducible refine Below.alloc ?_ ?_ _) | (with_reducible refine Below.setCell ?_ ?_ _) | (with_reducible refine le_alloc ?_ _) | (with_reducible refine le_set ?_ _ _) | (with_reducible refine le_drew ?_) | (with_reducible refine le_drewN ?_ _) | omega | (dsimp only; omega))))) hm).mono ?_
  rintro e w4 ⟨v4, rfl, ho4, hb4⟩
  obtain ⟨B4, d4, rfl⟩ := own_slice ho4
  simp at ho3 ho4
  have ho5 : w4.ownsRow w2.heap.size 2 1 (.slice A3 gs.length c3) gs.length (gs.flatMap intC) := by
    refine own_next ?_ hb4
    repeat (refine ownsRow_setCell_below ?_ (by dsimp only; omega) _)
    exact ho3
  have q0 := keepC hb4 w.heap.size (by first | (simp; done) | (simp; omega))
  have p4 := keepC hb4 (w.heap.size + 1) (by first | (simp; done) | (simp; omega))
  have q2 := keepC hb4 (w.heap.size + 1 + 1) (by first | (simp; done) | (simp; omega))
  have f1 := keepF hb4 (w.heap.size + 1) (by first | (simp; done) | (simp; omega))
  have f2 := keepF hb4 (w.heap.size + 1 + 1) (by first | (simp; done) | (simp; omega))
  have z4 := hb4.size
  simp at z4
  have bw4 : Below w.heap.size w w4 := Below.trans (by (repeat (first | (with_reducible assumption) | (with_reducible exact Below.refl _ _) | exact Nat.le_refl _ | exact Below.size (by with_reducible assumption) | (with_reducible refine Below.drew ?_) | (with_reducible refine below_drewN ?_ _) | (with_reducible refine Below.alloc ?_ ?_ _) | (with_reducible refine Below.setCell ?_ ?_ _) | (with_reducible refine le_alloc ?_ _) | (with_reducible refine le_set ?_ _ _) | (with_reducible refine le_drew ?_) | (with_reducible refine le_drewN ?_ _) | omega | (dsimp only; omega)))) (hb4.mono (by first | (simp; done) | (simp; omega)))
  clear hb4
  go_wp2_with fail
  refine bodyPost_ret (v := AidG.val ⟨⟨num, nm, x, y, hh, ⟨mk, mcs, msh, mtp⟩, ⟨ck, gs, l, cs, p⟩, secs, it⟩, A3, c3, B4, d4⟩) (by simp [results, Tryz.results35, go_sem, p4, p3, p2, p1]) rfl ⟨_, rfl, rfl, ⟨?_, ?_⟩, ?_⟩
  · refine own_base (base := w2.heap.size) ?_ (by omega)
    repeat (refine ownsRow_setCell_below ?_ (by dsimp only; omega) _)
    exact ho5
  · refine own_base (base := w3.heap.size) ?_ (by omega)
    repeat (refine ownsRow_setCell_below ?_ (by dsimp only; omega) _)
    exact ho4
  · (repeat (first | (with_reducible assumption) | (with_reducible exact Below.refl _ _) | exact Nat.le_refl _ | exact Below.size (by with_reducible assumption) | (with_reducible refine Below.drew ?_) | (with_reducible refine below_drewN ?_ _) | (with_reducible refine Below.alloc ?_ ?_ _) | (with_reducible refine Below.setCell ?_ ?_ _) | (with_reducible refine le_alloc ?_ _) | (with_reducible refine le_set ?_ _ _) | (with_reducible refine le_drew ?_) | (with_reducible refine le_drewN ?_ _) | omega | (dsimp only; omega)))
end Go.Proofs.YtpfnnjcochhklaaGreatDoor
