/- AidsG: several of my texts in one. -/
import Derived.Test.YtpfnnjcochhklaaGreatDoorAiG
import Derived.Test.YtpfnnjcochhklaaGreatDoorSecLaw

/- The laws' own functions over one aid. -/
namespace Go.Proofs.YtpfnnjcochhklaaGreatDoor
open Go.RowKit
set_option maxRecDepth 100000 in
set_option maxHeartbeats 400000 in
theorem szMark_c (m : Mk) (left : Int) (w : World) (h1 : m.cs.size ≤ maxLen) (h2 : m.sh.size ≤ maxLen) (h3 : m.tp.size ≤ maxLen) (h0 : 0 ≤ left) (hl : left ≤ 1048576) :
    Calls Tryz.prog 53 #[m.val, .int .i64 left] w fun e w' => ∃ r : Int, e = .returned (.int .i64 r) ∧ (r = -1 ∨ 0 ≤ r ∧ r + m.cs.size + m.sh.size + m.tp.size ≤ left) ∧ Below w.heap.size w w' := by
  unfold maxLen at h1 h2 h3
  go_enter Tryz.func53, Tryz.ntmps53
  go_wp2
  · go_ret
    exact ⟨-1, rfl, .inl rfl, (by (repeat (first | (with_reducible assumption) | (with_reducible exact Below.refl _ _) | exact Nat.le_refl _ | exact Below.size (by with_reducible assumption) | (with_reducible refine Below.drew ?_) | (with_reducible refine below_drewN ?_ _) | (with_reducible refine Below.alloc ?_ ?_ _) | (with_reducible refine Below.setCell ?_ ?_ _) | (with_reducible refine le_alloc ?_ _) | (with_reducible refine le_set ?_ _ _) | (with_reducible refine le_drew ?_) | (with_reducible refine le_drewN ?_ _) | omega | (dsimp only; omega))))⟩
  · go_ret
    exact ⟨-1, rfl, .inl rfl, (by (repeat (first | (with_reducible assumption) | (with_reducible exact Below.refl _ _) | exact Nat.le_refl _ | exact Below.size (by with_reducible assumption) | (with_reducible refine Below.drew ?_) | (with_reducible refine below_drewN ?_ _) | (with_reducible refine Below.alloc ?_ ?_ _) | (with_reducible refine Below.setCell ?_ ?_ _) | (with_reducible refine le_alloc ?_ _) | (with_reducible refine le_set ?_ _ _) | (with_reducible refine le_drew ?_) | (with_reducible refine le_drewN ?_ _) | omega | (dsimp only; omega))))⟩
  · go_ret
    exact ⟨-1, rfl, .inl rfl, (by (repeat (first | (with_reducible assumption) | (with_reducible exact Below.refl _ _) | exact Nat.le_refl _ | exact Below.size (by with_reducible assumption) | (with_reducible refine Below.drew ?_) | (with_reducible refine below_drewN ?_ _) | (with_reducible refine Below.alloc ?_ ?_ _) | (with_reducible refine Below.setCell ?_ ?_ _) | (with_reducible refine le_alloc ?_ _) | (with_reducible refine le_set ?_ _ _) | (with_reducible refine le_drew ?_) | (with_reducible refine le_drewN ?_ _) | omega | (dsimp only; omega))))⟩
  · go_ret
    exact ⟨_, rfl, .inr ⟨by omega, by omega⟩, (by (repeat (first | (with_reducible assumption) | (with_reducible exact Below.refl _ _) | exact Nat.le_refl _ | exact Below.size (by with_reducible assumption) | (with_reducible refine Below.drew ?_) | (with_reducible refine below_drewN ?_ _) | (with_reducible refine Below.alloc ?_ ?_ _) | (with_reducible refine Below.setCell ?_ ?_ _) | (with_reducible refine le_alloc ?_ _) | (with_reducible refine le_set ?_ _ _) | (with_reducible refine le_drew ?_) | (with_reducible refine le_drewN ?_ _) | omega | (dsimp only; omega))))⟩
set_option maxRecDepth 100000 in
set_option maxHeartbeats 1000000 in
theorem szAid_c (z : AidG) (left : Int) (w : World) (h : AidRd w z) (h0 : 0 ≤ left) (hl : left ≤ 1048576) :
    Calls Tryz.prog 33 #[z.val, .int .i64 left] w fun e w' => ∃ r : Int, e = .returned (.int .i64 r) ∧ (r = -1 ∨ 0 ≤ r ∧ r ≤ left ∧ AidBd z.a) ∧ Below w.heap.size w w' := by
  obtain ⟨⟨num, nm, x, y, hh, ⟨mk, mcs, msh, mtp⟩, ⟨ck, gs, l, cs, p⟩, secs, it⟩, A, c, B, d⟩ := z
  have hss := h.ss
  obtain ⟨_, _, h1, h2, h3, h4, h5, h6, h7, h8, h9⟩ := h
  simp only [AidG.n, AidG.m] at *
  have hb0 : Below w.heap.size w (w.alloc (aidO ⟨⟨num, nm, x, y, hh, ⟨mk, mcs, msh, mtp⟩, ⟨ck, gs, l, cs, p⟩, secs, it⟩, A, c, B, d⟩ 71)) := by (repeat (first | (with_reducible assumption) | (with_reducible exact Below.refl _ _) | exact Nat.le_refl _ | exact Below.size (by with_reducible assumption) | (with_reducible refine Below.drew ?_) | (with_reducible refine below_drewN ?_ _) | (with_reducible refine Below.alloc ?_ ?_ _) | (with_reducible refine Below.setCell ?_ ?_ _) | (with_reducible refine le_alloc ?_ _) | (with_reducible refine le_set ?_ _ _) | (with_reducible refine le_drew ?_) | (with_reducible refine le_drewN ?_ _) | omega | (dsimp only; omega)))
  replace hss := hss.next hb0
  simp only [aidO, AidG.cells, AidG.n, AidG.m] at hb0 hss
  unfold maxLen at h1
  go_enter Tryz.func33, Tryz.ntmps33
  go_wp2_with fail
  · go_ret
    exact ⟨-1, rfl, .inl rfl, hb0⟩
  refine (szMark_c ⟨mk, mcs, msh, mtp⟩ _ _ h2 h3 h4 (by omega) (by omega)).mono ?_
  rintro e w1 ⟨r1, rfl, hr1, hb1⟩
  simp only at hr1
  have q1 := keepC hb1 w.heap.size (by simp)
  replace hss := hss.next hb1
  have z1 : w.heap.size < w1.heap.size := Nat.lt_of_lt_of_le (by simp) hb1.size
  replace hb1 := hb0.trans (hb1.mono hb0.size)
  go_wp2_with fail
  · go_ret
    exact ⟨-1, rfl, .inl rfl, hb1⟩
  replace hr1 : 0 ≤ r1 ∧ r1 + mcs.size + msh.size + mtp.size ≤ left - nm.size := by omega
  refine (szCharacter_c ck A gs.length c l cs p r1 _ h5 h6 h7 (by omega) (by omega)).mono ?_
  rintro e w2 ⟨r2, rfl, hr2, hb2⟩
  have q2 := keepC hb2 w.heap.size z1
  replace hss := hss.next hb2
  have z2 := Nat.lt_of_lt_of_le z1 hb2.size
  replace hb2 := hb1.trans (hb2.mono hb1.size)
  go_wp2_with fail
  · go_ret
    exact ⟨-1, rfl, .inl rfl, hb2⟩
  replace hr2 : 0 ≤ r2 ∧ r2 ≤ r1 ∧ gs.length ≤ r1 ∧ l.size ≤ r1 ∧ cs.size ≤ r1 := by omega
  refine (szSectorS_c B secs.length d secs r2 _ hss h8 h9 (by omega) (by omega)).mono ?_
  rintro e w3 ⟨r3, rfl, hr3, hb3⟩
  have Hr3 := Lib.hid hr3; clear hr3
  by_cases h10 : r3 < 0
  · go_wp2_with fail
    go_ret
    exact ⟨-1, rfl, .inl rfl, hb2.trans (hb3.mono hb2.size)⟩
  · go_wp2_with fail
    go_ret
    have hr3 := Hr3.out
    rcases hr3 with hr3 | ⟨a1, a2, a3⟩
    · omega
    · exact ⟨r3, rfl, .inr ⟨by omega, by omega, ⟨by dsimp only; omega, by dsimp only; omega, by dsimp only; omega, by dsimp only; omega, by dsimp only; omega, by dsimp only; omega, by dsimp only; omega, by dsimp only; omega, a3⟩⟩, hb2.trans (hb3.mono hb2.size)⟩
set_option maxHeartbeats 400000 in
theorem toPoint_c (x y : Int) (w : World) : Calls Tryz.prog 58 #[ptV x y] w fun e w' => e = .returned (ptV x y) ∧ Below w.heap.size w w' := by
  go_enter Tryz.func58, Tryz.ntmps58
  go_wp2
  exact bodyPost_ret (v := ptV x y) (by simp [results, Tryz.results58, go_sem]) rfl ⟨rfl, by (repeat (first | (with_reducible assumption) | (with_reducible exact Below.refl _ _) | exact Nat.le_refl _ | exact Below.size (by with_reducible assumption) | (with_reducible refine Below.drew ?_) | (with_reducible refine below_drewN ?_ _) | (with_reducible refine Below.alloc ?_ ?_ _) | (with_reducible refine Below.setCell ?_ ?_ _) | (with_reducible refine le_alloc ?_ _) | (with_reducible refine le_set ?_ _ _) | (with_reducible refine le_drew ?_) | (with_reducible refine le_drewN ?_ _) | omega | (dsimp only; omega)))⟩
set_option maxHeartbeats 400000 in
theorem toMark_c (m : Mk) (w : World) : Calls Tryz.prog 59 #[m.val] w fun e w' => e = .returned m.val ∧ Below w.heap.size w w' := by
  go_enter Tryz.func59, Tryz.ntmps59
  go_wp2
  exact bodyPost_ret (v := m.val) (by simp [results, Tryz.results59, go_sem]) rfl ⟨rfl, by (repeat (first | (with_reducible assumption) | (with_reducible exact Below.refl _ _) | exact Nat.le_refl _ | exact Below.size (by with_reducible assumption) | (with_reducible refine Below.drew ?_) | (with_reducible refine below_drewN ?_ _) | (with_reducible refine Below.alloc ?_ ?_ _) | (with_reducible refine Below.setCell ?_ ?_ _) | (with_reducible refine le_alloc ?_ _) | (with_reducible refine le_set ?_ _ _) | (with_reducible refine le_drew ?_) | (with_reducible refine le_drewN ?_ _) | omega | (dsimp only; omega)))⟩
set_option maxHeartbeats 400000 in
theorem eqPoint_c (x y : Int) (w : World) : Calls Tryz.prog 62 #[ptV x y, ptV x y] w fun e w' => e = .returned (.bool true) ∧ Below w.heap.size w w' := by
  go_enter Tryz.func62, Tryz.ntmps62
  go_wp2
  go_ret
  exact ⟨rfl, by (repeat (first | (with_reducible assumption) | (with_reducible exact Below.refl _ _) | exact Nat.le_refl _ | exact Below.size (by with_reducible assumption) | (with_reducible refine Below.drew ?_) | (with_reducible refine below_drewN ?_ _) | (with_reducible refine Below.alloc ?_ ?_ _) | (with_reducible refine Below.setCell ?_ ?_ _) | (with_reducible refine le_alloc ?_ _) | (with_reducible refine le_set ?_ _ _) | (with_reducible refine le_drew ?_) | (with_reducible refine le_drewN ?_ _) | omega | (dsimp only; omega)))⟩
set_option maxHeartbeats 400000 in
theorem eqMark_c (m : Mk) (w : World) : Calls Tryz.prog 63 #[m.val, m.val] w fun e w' => e = .returned (.bool true) ∧ Below w.heap.size w w' := by
  have ne : ∀ u : ByteArray, (u.toList != u.toList) = false := fun u => by simp
  go_enter Tryz.func63, Tryz.ntmps63
  go_wp2
  go_ret
  exact ⟨rfl, by (repeat (first | (with_reducible assumption) | (with_reducible exact Below.refl _ _) | exact Nat.le_refl _ | exact Below.size (by with_reducible assumption) | (with_reducible refine Below.drew ?_) | (with_reducible refine below_drewN ?_ _) | (with_reducible refine Below.alloc ?_ ?_ _) | (with_reducible refine Below.setCell ?_ ?_ _) | (with_reducible refine le_alloc ?_ _) | (with_reducible refine le_set ?_ _ _) | (with_reducible refine le_drew ?_) | (with_reducible refine le_drewN ?_ _) | omega | (dsimp only; omega)))⟩
/-- The new aid lies in memory of the call's own. -/
structure AidNew (w : World) (base : Nat) (z : AidG) : Prop where
  g : w.ownsRow base 2 1 (.slice z.A z.n z.c) z.n (z.a.ch.gs.flatMap intC)
  s : w.ownsRow base 94 3 (.slice z.B z.m z.d) z.m (z.a.secs.flatMap Sec.cells)
theorem AidNew.next {w w' : World} {base : Nat} {z : AidG} (h : AidNew w base z) (hb : Below w.heap.size w w') : AidNew w' base z := ⟨own_next h.g hb, own_next h.s hb⟩
theorem AidNew.ok {w : World} {base : Nat} {z : AidG} (h : AidNew w base z) (b : AidBd z.a) : AidOk w z := ⟨Sl.of_own h.g, Sl.of_own h.s, b⟩
set_option maxRecDepth 100000 in
set_option maxHeartbeats 2000000 in
theorem toAid_c (z : AidG) (w : World) (h : AidOk w z) :
    Calls Tryz.prog 35 #[z.val] w fun e w' => ∃ z' : AidG, e = .returned z'.val ∧ z'.a = z.a ∧ AidNew w' w.heap.size z' ∧ Below w.heap.size w w' := by
  obtain ⟨⟨num, nm, x, y, hh, ⟨mk, mcs, msh, mtp⟩, ⟨ck, gs, l, cs, p⟩, secs, it⟩, A, c, B, d⟩ := z
  obtain ⟨sl, ss, bd⟩ := h
  have hg := bd.gs
  have hm := bd.ss
  simp only [AidG.n, AidG.m] at *
  go_enter Tryz.func35, Tryz.ntmps35
  go_wp2_with fail
  refine (toPoint_c x y _).mono ?_
  rintro e w1 ⟨rfl, hb1⟩
  have q0 := keepC hb1 w.heap.size (by first | (simp; done) | (simp; omega))
  have p1 := keepC hb1 (w.heap.size + 1) (by first | (simp; done) | (simp; omega))
  have q2 := keepC hb1 (w.heap.size + 1 + 1) (by first | (simp; done) | (simp; omega))
  have f1 := keepF hb1 (w.heap.size + 1) (by first | (simp; done) | (simp; omega))
  have f2 := keepF hb1 (w.heap.size + 1 + 1) (by first | (simp; done) | (simp; omega))
  have z1 := hb1.size
  simp at z1
  have bw1 : Below w.heap.size w w1 := Below.trans (by (repeat (first | (with_reducible assumption) | (with_reducible exact Below.refl _ _) | exact Nat.le_refl _ | exact Below.size (by with_reducible assumption) | (with_reducible refine Below.drew ?_) | (with_reducible refine below_drewN ?_ _) | (with_reducible refine Below.alloc ?_ ?_ _) | (with_reducible refine Below.setCell ?_ ?_ _) | (with_reducible refine le_alloc ?_ _) | (with_reducible refine le_set ?_ _ _) | (with_reducible refine le_drew ?_) | (with_reducible refine le_drewN ?_ _) | omega | (dsimp only; omega)))) (hb1.mono (by first | (simp; done) | (simp; omega)))
  clear hb1
  go_wp2_with fail
  refine (toMark_c ⟨mk, mcs, msh, mtp⟩ _).mono ?_
  rintro e w2 ⟨rfl, hb2⟩
  have q0 := keepC hb2 w.heap.size (by first | (simp; done) | (simp; omega))
  have p2 := keepC hb2 (w.heap.size + 1) (by first | (simp; done) | (simp; omega))
  have q2 := keepC hb2 (w.heap.size + 1 + 1) (by first | (simp; done) | (simp; omega))
  have f1 := keepF hb2 (w.heap.size + 1) (by first | (simp; done) | (simp; omega))
  have f2 := keepF hb2 (w.heap.size + 1 + 1) (by first | (simp; done) | (simp; omega))
  have z2 := hb2.size
  simp at z2
  have bw2 : Below w.heap.size w w2 := Below.trans (by (repeat (first | (with_reducible assumption) | (with_reducible exact Below.refl _ _) | exact Nat.le_refl _ | exact Below.size (by with_reducible assumption) | (with_reducible refine Below.drew ?_) | (with_reducible refine below_drewN ?_ _) | (with_reducible refine Below.alloc ?_ ?_ _) | (with_reducible refine Below.setCell ?_ ?_ _) | (with_reducible refine le_alloc ?_ _) | (with_reducible refine le_set ?_ _ _) | (with_reducible refine le_drew ?_) | (with_reducible refine le_drewN ?_ _) | omega | (dsimp only; omega)))) (hb2.mono (by first | (simp; done) | (simp; omega)))
  clear hb2
  go_wp2_with fail
  refine (toCharacter_c ck A gs.length c l cs p gs _ (sl.next (by (repeat (first | (with_reducible assumption) | (with_reducible exact Below.refl _ _) | exact Nat.le_refl _ | exact Below.size (by with_reducible assumption) | (with_reducible refine Below.drew ?_) | (with_reducible refine below_drewN ?_ _) | (with_reducible refine Below.alloc ?_ ?_ _) | (with_reducible refine Below.setCell ?_ ?_ _) | (with_reducible refine le_alloc ?_ _) | (with_reducible refine le_set ?_ _ _) | (with_reducible refine le_drew ?_) | (with_reducible refine le_drewN ?_ _) | omega | (dsimp only; omega))))) hg).mono ?_
  rintro e w3 ⟨A3, c3, rfl, ho3, hb3⟩
  have q0 := keepC hb3 w.heap.size (by first | (simp; done) | (simp; omega))
  have p3 := keepC hb3 (w.heap.size + 1) (by first | (simp; done) | (simp; omega))
  have q2 := keepC hb3 (w.heap.size + 1 + 1) (by first | (simp; done) | (simp; omega))
  have f1 := keepF hb3 (w.heap.size + 1) (by first | (simp; done) | (simp; omega))
  have f2 := keepF hb3 (w.heap.size + 1 + 1) (by first | (simp; done) | (simp; omega))
  have z3 := hb3.size
  simp at z3
  have bw3 : Below w.heap.size w w3 := Below.trans (by (repeat (first | (with_reducible assumption) | (with_reducible exact Below.refl _ _) | exact Nat.le_refl _ | exact Below.size (by with_reducible assumption) | (with_reducible refine Below.drew ?_) | (with_reducible refine below_drewN ?_ _) | (with_reducible refine Below.alloc ?_ ?_ _) | (with_reducible refine Below.setCell ?_ ?_ _) | (with_reducible refine le_alloc ?_ _) | (with_reducible refine le_set ?_ _ _) | (with_reducible refine le_drew ?_) | (with_reducible refine le_drewN ?_ _) | omega | (dsimp only; omega)))) (hb3.mono (by first | (simp; done) | (simp; omega)))
  clear hb3
  go_wp2_with fail
  refine (toSectorS_c B secs.length d secs _ (ss.next (by (repeat (first | (with_reducible assumption) | (with_reducible exact Below.refl _ _) | exact Nat.le_refl _ | exact Below.size (by with_reducible assumption) | (with_reducible refine Below.drew ?_) | (with_reducible refine below_drewN ?_ _) | (with_reducible refine Below.alloc ?_ ?_ _) | (with_reducible refine Below.setCell ?_ ?_ _) | (with_reducible refine le_alloc ?_ _) | (with_reducible refine le_set ?_ _ _) | (with_reducible refine le_drew ?_) | (with_reducible refine le_drewN ?_ _) | omega | (dsimp only; omega))))) hm).mono ?_
  rintro e w4 ⟨v4, rfl, ho4, hb4⟩
  obtain ⟨B4, d4, rfl⟩ := own_slice ho4
  simp at ho3 ho4
  have ho5 : w4.ownsRow w2.heap.size 2 1 (.slice A3 gs.length c3) gs.length (gs.flatMap intC) := by
    refine own_next ?_ hb4
    repeat (refine ownsRow_setCell_below ?_ (by dsimp only; omega) _)
    exact ho3
  have q0 := keepC hb4 w.heap.size (by first | (simp; done) | (simp; omega))
  have p4 := keepC hb4 (w.heap.size + 1) (by first | (simp; done) | (simp; omega))
  have q2 := keepC hb4 (w.heap.size + 1 + 1) (by first | (simp; done) | (simp; omega))
  have f1 := keepF hb4 (w.heap.size + 1) (by first | (simp; done) | (simp; omega))
  have f2 := keepF hb4 (w.heap.size + 1 + 1) (by first | (simp; done) | (simp; omega))
  have z4 := hb4.size
  simp at z4
  have bw4 : Below w.heap.size w w4 := Below.trans (by (repeat (first | (with_reducible assumption) | (with_reducible exact Below.refl _ _) | exact Nat.le_refl _ | exact Below.size (by with_reducible assumption) | (with_reducible refine Below.drew ?_) | (with_reducible refine below_drewN ?_ _) | (with_reducible refine Below.alloc ?_ ?_ _) | (with_reducible refine Below.setCell ?_ ?_ _) | (with_reducible refine le_alloc ?_ _) | (with_reducible refine le_set ?_ _ _) | (with_reducible refine le_drew ?_) | (with_reducible refine le_drewN ?_ _) | omega | (dsimp only; omega)))) (hb4.mono (by first | (simp; done) | (simp; omega)))
  clear hb4
  go_wp2_with fail
  refine bodyPost_ret (v := AidG.val ⟨⟨num, nm, x, y, hh, ⟨mk, mcs, msh, mtp⟩, ⟨ck, gs, l, cs, p⟩, secs, it⟩, A3, c3, B4, d4⟩) (by simp [results, Tryz.results35, go_sem, p4, p3, p2, p1]) rfl ⟨_, rfl, rfl, ⟨?_, ?_⟩, ?_⟩
  · refine own_base (base := w2.heap.size) ?_ (by omega)
    repeat (refine ownsRow_setCell_below ?_ (by dsimp only; omega) _)
    exact ho5
  · refine own_base (base := w3.heap.size) ?_ (by omega)
    repeat (refine ownsRow_setCell_below ?_ (by dsimp only; omega) _)
    exact ho4
  · (repeat (first | (with_reducible assumption) | (with_reducible exact Below.refl _ _) | exact Nat.le_refl _ | exact Below.size (by with_reducible assumption) | (with_reducible refine Below.drew ?_) | (with_reducible refine below_drewN ?_ _) | (with_reducible refine Below.alloc ?_ ?_ _) | (with_reducible refine Below.setCell ?_ ?_ _) | (with_reducible refine le_alloc ?_ _) | (with_reducible refine le_set ?_ _ _) | (with_reducible refine le_drew ?_) | (with_reducible refine le_drewN ?_ _) | omega | (dsimp only; omega)))
end Go.Proofs.YtpfnnjcochhklaaGreatDoor

/- The laws' eqAid, at equal values. -/
namespace Go.Proofs.YtpfnnjcochhklaaGreatDoor
open Go.RowKit
set_option maxRecDepth 100000 in
set_option maxHeartbeats 2000000 in
theorem eqAid_c (a : AidX) (A A' B B' : Option Addr) (c c' d d' : Nat) (w : World) (h : AidOk w ⟨a, A, c, B, d⟩) (h' : AidOk w ⟨a, A', c', B', d'⟩) :
    Calls Tryz.prog 36 #[AidG.val ⟨a, A, c, B, d⟩, AidG.val ⟨a, A', c', B', d'⟩] w fun e w' => e = .returned (.bool true) ∧ Below w.heap.size w w' := by
  have ne : ∀ u : ByteArray, (u.toList != u.toList) = false := fun u => by simp
  obtain ⟨num, nm, x, y, hh, ⟨mk, mcs, msh, mtp⟩, ⟨ck, gs, l, cs, p⟩, secs, it⟩ := a
  obtain ⟨sl, ss, bd⟩ := h
  obtain ⟨sl', ss', _⟩ := h'
  have hg := bd.gs
  have hm := bd.ss
  simp only [AidG.n, AidG.m] at *
  have hb0 : Below w.heap.size w ((w.alloc (.cells #[.int .i64 num, .string nm, .int .i64 x, .int .i64 y, .int .i64 hh, .int .i64 mk, .string mcs, .string msh, .string mtp, .int .i64 ck, .slice A gs.length c, .string l, .string cs, .int .i64 p, .slice B secs.length d, .int .i64 it] 56)).alloc
    (.cells #[.int .i64 num, .string nm, .int .i64 x, .int .i64 y, .int .i64 hh, .int .i64 mk, .string mcs, .string msh, .string mtp, .int .i64 ck, .slice A' gs.length c', .string l, .string cs, .int .i64 p, .slice B' secs.length d', .int .i64 it] 56)) := by (repeat (first | (with_reducible assumption) | (with_reducible exact Below.refl _ _) | exact Nat.le_refl _ | exact Below.size (by with_reducible assumption) | (with_reducible refine Below.drew ?_) | (with_reducible refine below_drewN ?_ _) | (with_reducible refine Below.alloc ?_ ?_ _) | (with_reducible refine Below.setCell ?_ ?_ _) | (with_reducible refine le_alloc ?_ _) | (with_reducible refine le_set ?_ _ _) | (with_reducible refine le_drew ?_) | (with_reducible refine le_drewN ?_ _) | omega | (dsimp only; omega)))
  have cp := aidp_box w ⟨⟨num, nm, x, y, hh, ⟨mk, mcs, msh, mtp⟩, ⟨ck, gs, l, cs, p⟩, secs, it⟩, A, c, B, d⟩ 56
  have cq := aidp_box (w.alloc (aidO ⟨⟨num, nm, x, y, hh, ⟨mk, mcs, msh, mtp⟩, ⟨ck, gs, l, cs, p⟩, secs, it⟩, A, c, B, d⟩ 56)) ⟨⟨num, nm, x, y, hh, ⟨mk, mcs, msh, mtp⟩, ⟨ck, gs, l, cs, p⟩, secs, it⟩, A', c', B', d'⟩ 56
  replace cp := cp.next (Below.alloc (Below.refl _ _) (Nat.le_refl _) (aidO ⟨⟨num, nm, x, y, hh, ⟨mk, mcs, msh, mtp⟩, ⟨ck, gs, l, cs, p⟩, secs, it⟩, A', c', B', d'⟩ 56))
  have hsz : (w.alloc (aidO ⟨⟨num, nm, x, y, hh, ⟨mk, mcs, msh, mtp⟩, ⟨ck, gs, l, cs, p⟩, secs, it⟩, A, c, B, d⟩ 56)).heap.size = w.heap.size + 1 := by simp
  rw [hsz] at cq
  simp only [aidO, AidG.cells, AidG.n, AidG.m] at cp cq
  obtain ⟨a0, a1, a2, a3, a4, a5, a6, a7, a8, a9, a10, a11, a12, a13, a14, a15, za⟩ := cp
  obtain ⟨b0, b1, b2, b3, b4, b5, b6, b7, b8, b9, b10, b11, b12, b13, b14, b15, zb⟩ := cq
  simp only [Nat.zero_add, AidG.n, AidG.m] at a1 a2 a3 a4 a5 a6 a7 a8 a9 a10 a11 a12 a13 a14 a15 b1 b2 b3 b4 b5 b6 b7 b8 b9 b10 b11 b12 b13 b14 b15
  have sl0 := sl.next hb0
  have sl0' := sl'.next hb0
  have ss0 := ss.next hb0
  have ss0' := ss'.next hb0
  go_enter Tryz.func36, Tryz.ntmps36
  go_wp2_with fail
  generalize (w.alloc (.cells #[.int .i64 num, .string nm, .int .i64 x, .int .i64 y, .int .i64 hh, .int .i64 mk, .string mcs, .string msh, .string mtp, .int .i64 ck, .slice A gs.length c, .string l, .string cs, .int .i64 p, .slice B secs.length d, .int .i64 it] 56)).alloc
    (.cells #[.int .i64 num, .string nm, .int .i64 x, .int .i64 y, .int .i64 hh, .int .i64 mk, .string mcs, .string msh, .string mtp, .int .i64 ck, .slice A' gs.length c', .string l, .string cs, .int .i64 p, .slice B' secs.length d', .int .i64 it] 56) = w0 at *
  refine (eqPoint_c x y _).mono ?_
  rintro e w1 ⟨rfl, hb1⟩
  have q1 := keepC hb1 w.heap.size za
  have r1 := keepC hb1 (w.heap.size + 1) zb
  have y1 := Nat.lt_of_lt_of_le za hb1.size
  have z1 := Nat.lt_of_lt_of_le zb hb1.size
  go_wp2_with fail
  refine (eqMark_c ⟨mk, mcs, msh, mtp⟩ _).mono ?_
  rintro e w2 ⟨rfl, hb2⟩
  have q2 := keepC hb2 w.heap.size y1
  have r2 := keepC hb2 (w.heap.size + 1) z1
  have y2 := Nat.lt_of_lt_of_le y1 hb2.size
  have z2 := Nat.lt_of_lt_of_le z1 hb2.size
  replace hb2 := hb1.trans (hb2.mono hb1.size)
  go_wp2_with fail
  refine (eqCharacter_c ck A A' gs.length c c' l cs p gs _ (sl0.next hb2) (sl0'.next hb2) hg).mono ?_
  rintro e w3 ⟨rfl, hb3⟩
  have q3 := keepC hb3 w.heap.size y2
  have r3 := keepC hb3 (w.heap.size + 1) z2
  have y3 := Nat.lt_of_lt_of_le y2 hb3.size
  have z3 := Nat.lt_of_lt_of_le z2 hb3.size
  replace hb3 := hb2.trans (hb3.mono hb2.size)
  go_wp2_with fail
  refine (eqSectorS_c B B' secs.length d d' secs _ (ss0.next hb3) (ss0'.next hb3) (by unfold maxLen; omega)).mono ?_
  rintro e w4 ⟨rfl, hb4⟩
  have q4 := keepC hb4 w.heap.size y3
  have r4 := keepC hb4 (w.heap.size + 1) z3
  replace hb4 := hb3.trans (hb4.mono hb3.size)
  go_wp2_with fail
  go_ret
  exact ⟨rfl, hb0.trans (hb4.mono hb0.size)⟩
end Go.Proofs.YtpfnnjcochhklaaGreatDoor

/- Lists of aids: how they lie, and the laws' own functions over them. -/
namespace Go.Proofs.YtpfnnjcochhklaaGreatDoor
open Go.RowKit
theorem aidInfo : (Tryz.prog.info? 56).map (fun i => (i.zero, i.size, i.bytes)) = some (some (.agg #[.int .i64 0, .string ByteArray.empty, .int .i64 0, .int .i64 0, .int .i64 0, .int .i64 0, .string ByteArray.empty, .string ByteArray.empty, .string ByteArray.empty, .int .i64 0, .slice none 0 0, .string ByteArray.empty, .string ByteArray.empty, .int .i64 0, .slice none 0 0, .int .i64 0]), 16, 208) := by kernel_rfl
/-- The slice .slice A n _ reads as the aids zs. -/
structure AidSl (w : World) (A : Option Addr) (n : Nat) (zs : List AidG) : Prop where
  sl : Sl w w.heap.size 16 A n (zs.flatMap AidG.cells)
  ok : ∀ z ∈ zs, AidOk w z
theorem AidSl.next {w w' : World} {A : Option Addr} {n : Nat} {zs : List AidG} (h : AidSl w A n zs) (hb : Below w.heap.size w w') : AidSl w' A n zs := ⟨h.sl.next hb, fun z hz => (h.ok z hz).next hb⟩
theorem AidSl.len {w : World} {A : Option Addr} {n : Nat} {zs : List AidG} (h : AidSl w A n zs) : zs.length = n := h.sl.len AidG.cells 16 AidG.cells_len (by omega)
theorem AidSl.get {w : World} {A : Option Addr} {n : Nat} {zs : List AidG} (h : AidSl w A n zs) (k : Nat) (hk : k < n) :
    ∃ b off z, A = some ⟨b, off, none⟩ ∧ zs[k]? = some z ∧ AidOk w z ∧ AidP w b (off + k * 16) z := by
  obtain ⟨b, off, z, hA, hb, hx, hp⟩ := aid_at h.sl (Nat.le_refl _) k hk
  exact ⟨b, off, z, hA, hx, h.ok z (List.mem_of_getElem? hx), hp⟩
/-- They lie in memory of the call's own. -/
structure AidOwn (w : World) (base : Nat) (v : Value) (n : Nat) (zs : List AidG) : Prop where
  own : w.ownsRow base 56 16 v n (zs.flatMap AidG.cells)
  new : ∀ z ∈ zs, AidNew w base z
theorem AidOwn.next {w w' : World} {base n : Nat} {v : Value} {zs : List AidG} (h : AidOwn w base v n zs) (hb : Below w.heap.size w w') : AidOwn w' base v n zs := ⟨own_next h.own hb, fun z hz => (h.new z hz).next hb⟩
theorem AidOwn.sl {w : World} {base n c : Nat} {A : Option Addr} {zs : List AidG} (h : AidOwn w base (.slice A n c) n zs) (hb : ∀ z ∈ zs, AidBd z.a) : AidSl w A n zs := ⟨Sl.of_own h.own, fun z hz => (h.new z hz).ok (hb z hz)⟩
theorem bd_of {zs zs' : List AidG} (h : zs'.map AidG.a = zs.map AidG.a) (hb : ∀ z ∈ zs, AidBd z.a) : ∀ z ∈ zs', AidBd z.a := fun z hz => by
  have : z.a ∈ zs'.map AidG.a := List.mem_map_of_mem hz
  rw [h] at this
  obtain ⟨y, hy, e⟩ := List.mem_map.1 this
  rw [← e]; exact hb y hy
set_option maxRecDepth 100000 in
set_option maxHeartbeats 1000000 in
theorem szAidS_c (A : Option Addr) (n c : Nat) (zs : List AidG) (left : Int) (w : World) (h : Sl w w.heap.size 16 A n (zs.flatMap AidG.cells)) (hm : n ≤ maxLen) (hz : ∀ z ∈ zs, AidRd w z) (h0 : 0 ≤ left) (h1 : left ≤ 1048576) :
    Calls Tryz.prog 13 #[.slice A n c, .int .i64 left] w fun e w' => ∃ r : Int, e = .returned (.int .i64 r) ∧ (r = -1 ∨ 0 ≤ r ∧ r + n ≤ left ∧ ∀ z ∈ zs, AidBd z.a) ∧ Below w.heap.size w w' := by
  have hl := h.len AidG.cells 16 AidG.cells_len (by omega)
  unfold maxLen at hm
  have Hl := Lib.hid hl; clear hl
  have Hz := Lib.hid hz; clear hz
  go_enter Tryz.func13, Tryz.ntmps13
  go_wp2
  · go_ret
    exact ⟨-1, rfl, .inl rfl, by (repeat (first | (with_reducible assumption) | (with_reducible exact Below.refl _ _) | exact Nat.le_refl _ | exact Below.size (by with_reducible assumption) | (with_reducible refine Below.drew ?_) | (with_reducible refine below_drewN ?_ _) | (with_reducible refine Below.alloc ?_ ?_ _) | (with_reducible refine Below.setCell ?_ ?_ _) | (with_reducible refine le_alloc ?_ _) | (with_reducible refine le_set ?_ _ _) | (with_reducible refine le_drew ?_) | (with_reducible refine le_drewN ?_ _) | omega | (dsimp only; omega)))⟩
  · go_loopw [1, 5] (fun l i wr => ∃ (k : Nat) (r : Int), k ≤ n ∧ i = .int .i64 k ∧ l = .int .i64 r ∧ 0 ≤ r ∧ r + n ≤ left ∧ Hid (∀ z ∈ zs.take k, AidBd z.a) ∧ Below w.heap.size w wr) (fun _ i _ => n - (intOf i).toNat)
    case atStart => exact ⟨0, _, Nat.zero_le _, rfl, rfl, by omega, by omega, Lib.hid (by simp), Below.refl _ _⟩
    case round =>
      obtain ⟨k, r, hk, rfl, rfl, hr0, hr1, Hok, hbw⟩ := hrel
      by_cases hlt : k < n
      · obtain ⟨b, off, z, rfl, hb, hx, hp⟩ := aid_at h (Nat.le_refl _) k hlt
        have hr := Hz.out z (List.mem_of_getElem? hx)
        obtain ⟨c0, c1, c2, c3, c4, c5, c6, c7, c8, c9, c10, c11, c12, c13, c14, c15, _⟩ := hp.next hbw
        clear hp
        have hr' := hr.next hbw
        clear hr
        have Hr := Lib.hid hr'; clear hr'
        have Hx := Lib.hid hx; clear hx
        go_wp2_with fail
        refine (szAid_c z r _ Hr.out hr0 (by omega)).mono ?_
        rintro e w2 ⟨q, rfl, hq, hb1⟩
        have Hq := Lib.hid hq; clear hq
        go_wp2_with fail
        · go_ret
          exact ⟨-1, rfl, .inl rfl, hbw.trans (hb1.mono hbw.size)⟩
        · have hq2 : 0 ≤ q ∧ q ≤ r ∧ AidBd z.a := by
            rcases Hq.out with h3 | h3
            · omega
            · exact h3
          obtain ⟨hq0, hq1, hbd⟩ := hq2
          go_roundw
          case rel =>
            refine ⟨k + 1, q, by omega, by go_num, rfl, by omega, by omega, Lib.hid (fun z' hz' => ?_), hbw.trans (hb1.mono hbw.size)⟩
            rcases (mem_take_next Hx.out z').1 hz' with h2 | h2
            · exact Hok.out z' h2
            · subst h2; exact hbd
          case measure => simp [intOf]; omega
      · go_wp2
        go_ret
        have hok := Hok.out
        rw [List.take_of_length_le (by rw [Hl.out]; omega)] at hok
        exact ⟨r, rfl, .inr ⟨by omega, by omega, hok⟩, hbw⟩
set_option maxRecDepth 100000 in
set_option maxHeartbeats 2000000 in
theorem toAidS_c (A : Option Addr) (n c : Nat) (zs : List AidG) (w : World) (h : AidSl w A n zs) (hm : n ≤ 1048576) :
    Calls Tryz.prog 15 #[.slice A n c] w fun e w' => ∃ v zs', e = .returned v ∧ zs'.map AidG.a = zs.map AidG.a ∧ AidOwn w' w.heap.size v n zs' ∧ Below w.heap.size w w' := by
  obtain ⟨i0, hi, hz0, hz1, hz2⟩ := info_parts aidInfo
  have hln := h.len
  have hB : i0.bytes * n ≤ 281474976710656 := by rw [hz2]; omega
  have hM : n ≤ maxLen := by unfold maxLen; omega
  have Hln := Lib.hid hln; clear hln
  have HB := Lib.hid hB; clear hB
  have HM := Lib.hid hM; clear hM
  go_enter Tryz.func15, Tryz.ntmps15
  go_wp2_with (at_make; refine wpList_make_full _ rfl _ _ _ rfl w.heap.size 56 i0 _ 16 Tryz.underlying24 hi hz0 hz1 _ _ _ _ n rfl rfl rfl rfl HB.out HM.out (Nat.le_refl _) ?_; intro w1 hown hgr)
  have hb0 : Below w.heap.size w w1 := (Below.refl _ _).grown hgr (Nat.le_refl _) (by simp)
  clear hgr
  go_loopw [4] (fun i wr => ∃ (k : Nat) (ys : List Value) (zs' : List AidG), k ≤ n ∧ i = .int .i64 k ∧ zs'.map AidG.a = (zs.take k).map AidG.a ∧ wr.ownsRow w.heap.size 56 16 (.slice (some ⟨w.heap.size, 0, none⟩) n n) n ys ∧ ys.take (k * 16) = zs'.flatMap AidG.cells ∧ (∀ z ∈ zs', AidNew wr w.heap.size z) ∧ Below w.heap.size w wr) (fun i _ => n - (intOf i).toNat)
  case atStart => exact ⟨0, _, [], Nat.zero_le _, rfl, by simp, hown, by simp, by simp, hb0⟩
  case round =>
    clear hown hb0
    obtain ⟨k, ys, zs', hk, rfl, hzx, hown, hys, hgr, hbw⟩ := hrel
    have Hzx := Lib.hid hzx; clear hzx
    have Hys := Lib.hid hys; clear hys
    have Hgr := Lib.hid hgr; clear hgr
    by_cases hlt : k < n
    · obtain ⟨b, off, z, rfl, hx, hzo, hp⟩ := h.get k hlt
      have hyl := hown.1
      obtain ⟨c0, c1, c2, c3, c4, c5, c6, c7, c8, c9, c10, c11, c12, c13, c14, c15, hbb⟩ := hp.next hbw
      clear hp
      have z0 : w.heap.size < wr.heap.size := (hown.lt _ rfl).2
      have hzo' := hzo.next hbw
      clear hzo
      have Hx := Lib.hid hx; clear hx
      have Hyl := Lib.hid hyl; clear hyl
      have Hzo := Lib.hid hzo'; clear hzo'
      go_wp2_with fail
      refine (toAid_c z _ Hzo.out).mono ?_
      rintro e w2 ⟨⟨a2, A2, c2', B2, d2⟩, rfl, ha2, ho2g, hb1⟩
      simp only at ha2
      subst ha2
      have ho2 := own_next hown hb1
      obtain ⟨y0, f0⟩ := own_cell ho2 (k * 16) (by omega)
      obtain ⟨y1, f1⟩ := own_cell ho2 (k * 16 + 1) (by omega)
      obtain ⟨y2, f2⟩ := own_cell ho2 (k * 16 + 2) (by omega)
      obtain ⟨y3, f3⟩ := own_cell ho2 (k * 16 + 3) (by omega)
      obtain ⟨y4, f4⟩ := own_cell ho2 (k * 16 + 4) (by omega)
      obtain ⟨y5, f5⟩ := own_cell ho2 (k * 16 + 5) (by omega)
      obtain ⟨y6, f6⟩ := own_cell ho2 (k * 16 + 6) (by omega)
      obtain ⟨y7, f7⟩ := own_cell ho2 (k * 16 + 7) (by omega)
      obtain ⟨y8, f8⟩ := own_cell ho2 (k * 16 + 8) (by omega)
      obtain ⟨y9, f9⟩ := own_cell ho2 (k * 16 + 9) (by omega)
      obtain ⟨y10, f10⟩ := own_cell ho2 (k * 16 + 10) (by omega)
      obtain ⟨y11, f11⟩ := own_cell ho2 (k * 16 + 11) (by omega)
      obtain ⟨y12, f12⟩ := own_cell ho2 (k * 16 + 12) (by omega)
      obtain ⟨y13, f13⟩ := own_cell ho2 (k * 16 + 13) (by omega)
      obtain ⟨y14, f14⟩ := own_cell ho2 (k * 16 + 14) (by omega)
      obtain ⟨y15, f15⟩ := own_cell ho2 (k * 16 + 15) (by omega)
      have fz := ho2.frozenAt
      clear c0 c1 c2 c3 c4 c5 c6 c7 c8 c9 c10 c11 c12 c13 c14 c15
      go_wp2_with fail
      go_roundw
      case rel =>
        have s0 := ho2.stored (k * 16) (.int .i64 z.a.num)
        have s1 := s0.1.stored (k * 16 + 1) (.string z.a.nm)
        have s2 := s1.1.stored (k * 16 + 2) (.int .i64 z.a.x)
        have s3 := s2.1.stored (k * 16 + 3) (.int .i64 z.a.y)
        have s4 := s3.1.stored (k * 16 + 4) (.int .i64 z.a.h)
        have s5 := s4.1.stored (k * 16 + 5) (.int .i64 z.a.mr.k)
        have s6 := s5.1.stored (k * 16 + 6) (.string z.a.mr.cs)
        have s7 := s6.1.stored (k * 16 + 7) (.string z.a.mr.sh)
        have s8 := s7.1.stored (k * 16 + 8) (.string z.a.mr.tp)
        have s9 := s8.1.stored (k * 16 + 9) (.int .i64 z.a.ch.k)
        have s10 := s9.1.stored (k * 16 + 10) (.slice A2 z.n c2')
        have s11 := s10.1.stored (k * 16 + 11) (.string z.a.ch.l)
        have s12 := s11.1.stored (k * 16 + 12) (.string z.a.ch.cs)
        have s13 := s12.1.stored (k * 16 + 13) (.int .i64 z.a.ch.p)
        have s14 := s13.1.stored (k * 16 + 14) (.slice B2 z.m d2)
        have s15 := s14.1.stored (k * 16 + 15) (.int .i64 z.a.it)
        have sg := grown_trans (grown_trans (grown_trans (grown_trans (grown_trans (grown_trans (grown_trans (grown_trans (grown_trans (grown_trans (grown_trans (grown_trans (grown_trans (grown_trans (grown_trans (s0.2) s1.2) s2.2) s3.2) s4.2) s5.2) s6.2) s7.2) s8.2) s9.2) s10.2) s11.2) s12.2) s13.2) s14.2) s15.2
        refine ⟨k + 1, setAll ys (k * 16) (AidG.cells ⟨z.a, A2, c2', B2, d2⟩), zs' ++ [⟨z.a, A2, c2', B2, d2⟩], by omega, by go_num, ?_, ?_, ?_, ?_, ?_⟩
        · rw [List.map_append, Hzx.out, List.take_add_one, Hx.out]; simp
        · exact s15.1
        · rw [setAll_take Hyl.out hlt (AidG.cells_len _), Hys.out, List.flatMap_append]; simp
        · intro z' hz'
          rcases List.mem_append.1 hz' with h2 | h2
          · have hh := (Hgr.out z' h2).next hb1
            exact ⟨own_grown hh.g sg (own_ne hh.g ho2 (by decide)), own_grown hh.s sg (own_ne hh.s ho2 (by decide))⟩
          · simp only [List.mem_singleton] at h2
            subst h2
            have hg := own_base ho2g.g hbw.size
            have hs := own_base ho2g.s hbw.size
            exact ⟨own_grown hg sg (own_ne hg ho2 (by decide)), own_grown hs sg (own_ne hs ho2 (by decide))⟩
        · have hb2 := hbw.trans (hb1.mono hbw.size)
          exact ((((((((((((((((hb2).setCell (Nat.le_refl _) _).setCell (Nat.le_refl _) _).setCell (Nat.le_refl _) _).setCell (Nat.le_refl _) _).setCell (Nat.le_refl _) _).setCell (Nat.le_refl _) _).setCell (Nat.le_refl _) _).setCell (Nat.le_refl _) _).setCell (Nat.le_refl _) _).setCell (Nat.le_refl _) _).setCell (Nat.le_refl _) _).setCell (Nat.le_refl _) _).setCell (Nat.le_refl _) _).setCell (Nat.le_refl _) _).setCell (Nat.le_refl _) _).setCell (Nat.le_refl _) _
      case measure => simp [intOf]; omega
    · go_wp2_with fail
      go_ret
      obtain rfl : k = n := by omega
      have hyl := hown.1
      have hys := Hys.out
      have hzx := Hzx.out
      rw [List.take_of_length_le (by omega)] at hys
      rw [List.take_of_length_le (by rw [Hln.out]; omega)] at hzx
      subst hys
      exact ⟨_, zs', rfl, hzx, ⟨hown, Hgr.out⟩, hbw⟩
end Go.Proofs.YtpfnnjcochhklaaGreatDoor

/- Lists of aids: equal ones; valid ones in plain Lean. -/
namespace Go.Proofs.YtpfnnjcochhklaaGreatDoor
open Go.RowKit
def aidZero : AidX := ⟨0, ByteArray.empty, 0, 0, 0, ⟨0, ByteArray.empty, ByteArray.empty, ByteArray.empty⟩, ⟨0, [], ByteArray.empty, ByteArray.empty, 0⟩, [], 0⟩
def aAt (l : List AidX) (i : Nat) : AidX := l.getD i aidZero
theorem aAt_eq {zs : List AidG} {i : Nat} {z : AidG} (h : zs[i]? = some z) : aAt (zs.map AidG.a) i = z.a := by simp [aAt, h]
def aidsP (l : List AidX) : Prop := (∀ i, i < l.length → aidB (aAt l i) = true) ∧ ∀ i, i < l.length → 0 < i → (aAt l (i - 1)).num < (aAt l i).num
instance (l : List AidX) : Decidable (aidsP l) := by unfold aidsP; infer_instance
def aidsB (l : List AidX) : Bool := decide (l.length ≤ 24 ∧ aidsP l)
theorem aidsB_no {l : List AidX} (h : ¬ aidsP l) : aidsB l = false := by simp [aidsB, h]
theorem aidsB_yes {l : List AidX} (h : aidsP l) : aidsB l = decide (l.length ≤ 24) := by simp [aidsB, h]
set_option maxRecDepth 100000 in
set_option maxHeartbeats 2000000 in
theorem eqAidS_c (A A' : Option Addr) (n c c' : Nat) (zs zs' : List AidG) (w : World) (h : AidSl w A n zs) (h' : AidSl w A' n zs') (hx : zs.map AidG.a = zs'.map AidG.a) (hm : n ≤ 1048576) :
    Calls Tryz.prog 17 #[.slice A n c, .slice A' n c'] w fun e w' => e = .returned (.bool true) ∧ Below w.heap.size w w' := by
  have Hx := Lib.hid hx; clear hx
  go_enter Tryz.func17, Tryz.ntmps17
  go_wp2
  go_loopw [5] (fun i wr => ∃ k : Nat, k ≤ n ∧ i = .int .i64 k ∧ Below w.heap.size w wr) (fun i _ => n - (intOf i).toNat)
  case atStart => exact ⟨0, Nat.zero_le _, rfl, Below.refl _ _⟩
  case round =>
    obtain ⟨k, hk, rfl, hbw⟩ := hrel
    by_cases hlt : k < n
    · obtain ⟨b, off, z, rfl, hz, hzo, hp⟩ := h.get k hlt
      obtain ⟨b', off', z', rfl, hz', hzo', hp'⟩ := h'.get k hlt
      have he : z.a = z'.a := by
        have h1 := aAt_eq hz
        have h2 := aAt_eq hz'
        rw [← Hx.out, h1] at h2; exact h2
      obtain ⟨a, Az, cz, Bz, dz⟩ := z
      obtain ⟨a', Az', cz', Bz', dz'⟩ := z'
      obtain rfl : a = a' := he
      have y1 := hp.hb
      have y2 := hp'.hb
      have z1 := Nat.lt_of_lt_of_le y1 hbw.size
      have z2 := Nat.lt_of_lt_of_le y2 hbw.size
      obtain ⟨c0, c1, c2, c3, c4, c5, c6, c7, c8, c9, c10, c11, c12, c13, c14, c15, _⟩ := hp.next hbw
      obtain ⟨d0, d1, d2, d3, d4, d5, d6, d7, d8, d9, d10, d11, d12, d13, d14, d15, _⟩ := hp'.next hbw
      clear hp hp'
      have j1 : (0 : Int) ≤ (k : Int) := by omega
      have j2 : (k : Int) < (n : Int) := by omega
      have hE : ∀ w', Below wr.heap.size wr w' → Calls Tryz.prog 36 #[AidG.val ⟨a, Az, cz, Bz, dz⟩, AidG.val ⟨a, Az', cz', Bz', dz'⟩] w' fun e w'' => e = .returned (.bool true) ∧ Below w'.heap.size w' w'' := fun w' hb => eqAid_c a Az Az' Bz Bz' cz cz' dz dz' w' ((hzo.next hbw).next hb) ((hzo'.next hbw).next hb)
      have HE := Lib.hid hE; clear hE
      have Hz := Lib.hid hz; clear hz
      have Hz' := Lib.hid hz'; clear hz'
      have Hzo := Lib.hid hzo; clear hzo
      have Hzo' := Lib.hid hzo'; clear hzo'
      go_wp2
      have e1 : ∀ {w' : World}, Below wr.heap.size wr w' → (Below wr.heap.size wr w' ∧ (∀ x, w'.cell? ⟨b, x, none⟩ = wr.cell? ⟨b, x, none⟩) ∧ (∀ x, w'.cell? ⟨b', x, none⟩ = wr.cell? ⟨b', x, none⟩)) := fun hbb => ⟨hbb, keepC hbb _ z1, keepC hbb _ z2⟩
      refine wp_region_held_drew (S := fun w' => Below wr.heap.size wr w' ∧ (∀ x, w'.cell? ⟨b, x, none⟩ = wr.cell? ⟨b, x, none⟩) ∧ (∀ x, w'.cell? ⟨b', x, none⟩ = wr.cell? ⟨b', x, none⟩)) (by kernel_rfl) (e1 (Below.refl _ _).drew) (fun hHeld => ?_)
      (first
        | (refine wpAnyH_take (i := 0) (v := ?_) rfl (by kernel_rfl) (by kernel_rfl) (by kernel_rfl) (fun _ _ _ h => h) (Or.inl ⟨by rfl, ?_⟩) (by assumption) ?_
           rotate_left
           focus (intro wq hSq; (try dsimp only at hSq); go_simp; (try (with_reducible rfl)); done))
        | (refine wpAnyH_take (i := 0) (v := undef) rfl (by kernel_rfl) (by kernel_rfl) (by kernel_rfl) (fun _ _ _ h => h) (Or.inr ⟨by rfl, rfl⟩) (by assumption) ?_)
        | fail "take 0")
      try simp only [Act.put, List.setIfInBounds_toArray, List.set_cons_zero, List.set_cons_succ, List.getElem_toArray, List.getElem_cons_zero]
      (first
        | (refine wpAnyH_take (i := 1) (v := ?_) rfl (by kernel_rfl) (by kernel_rfl) (by kernel_rfl) (fun _ _ _ h => h) (Or.inl ⟨by rfl, ?_⟩) (by assumption) ?_
           rotate_left
           focus (intro wq hSq; (try dsimp only at hSq); go_simp; (try (with_reducible rfl)); done))
        | (refine wpAnyH_take (i := 1) (v := undef) rfl (by kernel_rfl) (by kernel_rfl) (by kernel_rfl) (fun _ _ _ h => h) (Or.inr ⟨by rfl, rfl⟩) (by assumption) ?_)
        | fail "take 1")
      try simp only [Act.put, List.setIfInBounds_toArray, List.set_cons_zero, List.set_cons_succ, List.getElem_toArray, List.getElem_cons_zero, List.getElem_cons_succ]
      (first
        | (refine wpAnyH_take (i := 2) (v := ?_) rfl (by kernel_rfl) (by kernel_rfl) (by kernel_rfl) (fun _ _ _ h => h) (Or.inl ⟨by rfl, ?_⟩) (by assumption) ?_
           rotate_left
           focus (intro wq hSq; (try dsimp only at hSq); go_simp; (try (with_reducible rfl)); done))
        | (refine wpAnyH_take (i := 2) (v := undef) rfl (by kernel_rfl) (by kernel_rfl) (by kernel_rfl) (fun _ _ _ h => h) (Or.inr ⟨by rfl, rfl⟩) (by assumption) ?_)
        | fail "take 2")
      try simp only [Act.put, List.setIfInBounds_toArray, List.set_cons_zero, List.set_cons_succ, List.getElem_toArray, List.getElem_cons_zero, List.getElem_cons_succ]
      (first
        | (refine wpAnyH_take (i := 3) (v := ?_) rfl (by kernel_rfl) (by kernel_rfl) (by kernel_rfl) (fun _ _ _ h => h) (Or.inl ⟨by rfl, ?_⟩) (by assumption) ?_
           rotate_left
           focus (intro wq hSq; (try dsimp only at hSq); go_simp; (try (with_reducible rfl)); done))
        | (refine wpAnyH_take (i := 3) (v := undef) rfl (by kernel_rfl) (by kernel_rfl) (by kernel_rfl) (fun _ _ _ h => h) (Or.inr ⟨by rfl, rfl⟩) (by assumption) ?_)
        | fail "take 3")
      try simp only [Act.put, List.setIfInBounds_toArray, List.set_cons_zero, List.set_cons_succ, List.getElem_toArray, List.getElem_cons_zero, List.getElem_cons_succ]
      (first
        | (refine wpAnyH_take (i := 4) (v := ?_) rfl (by kernel_rfl) (by kernel_rfl) (by kernel_rfl) (fun _ _ _ h => h) (Or.inl ⟨by rfl, ?_⟩) (by assumption) ?_
           rotate_left
           focus (intro wq hSq; (try dsimp only at hSq); go_simp; (try (with_reducible rfl)); done))
        | (refine wpAnyH_take (i := 4) (v := undef) rfl (by kernel_rfl) (by kernel_rfl) (by kernel_rfl) (fun _ _ _ h => h) (Or.inr ⟨by rfl, rfl⟩) (by assumption) ?_)
        | fail "take 4")
      try simp only [Act.put, List.setIfInBounds_toArray, List.set_cons_zero, List.set_cons_succ, List.getElem_toArray, List.getElem_cons_zero, List.getElem_cons_succ]
      (first
        | (refine wpAnyH_take (i := 5) (v := ?_) rfl (by kernel_rfl) (by kernel_rfl) (by kernel_rfl) (fun _ _ _ h => h) (Or.inl ⟨by rfl, ?_⟩) (by assumption) ?_
           rotate_left
           focus (intro wq hSq; (try dsimp only at hSq); go_simp; (try (with_reducible rfl)); done))
        | (refine wpAnyH_take (i := 5) (v := undef) rfl (by kernel_rfl) (by kernel_rfl) (by kernel_rfl) (fun _ _ _ h => h) (Or.inr ⟨by rfl, rfl⟩) (by assumption) ?_)
        | fail "take 5")
      try simp only [Act.put, List.setIfInBounds_toArray, List.set_cons_zero, List.set_cons_succ, List.getElem_toArray, List.getElem_cons_zero, List.getElem_cons_succ]
      (first
        | (refine wpAnyH_take (i := 6) (v := ?_) rfl (by kernel_rfl) (by kernel_rfl) (by kernel_rfl) (fun _ _ _ h => h) (Or.inl ⟨by rfl, ?_⟩) (by assumption) ?_
           rotate_left
           focus (intro wq hSq; (try dsimp only at hSq); go_simp; (try (with_reducible rfl)); done))
        | (refine wpAnyH_take (i := 6) (v := undef) rfl (by kernel_rfl) (by kernel_rfl) (by kernel_rfl) (fun _ _ _ h => h) (Or.inr ⟨by rfl, rfl⟩) (by assumption) ?_)
        | fail "take 6")
      try simp only [Act.put, List.setIfInBounds_toArray, List.set_cons_zero, List.set_cons_succ, List.getElem_toArray, List.getElem_cons_zero, List.getElem_cons_succ]
      (first
        | (refine wpAnyH_take (i := 7) (v := ?_) rfl (by kernel_rfl) (by kernel_rfl) (by kernel_rfl) (fun _ _ _ h => h) (Or.inl ⟨by rfl, ?_⟩) (by assumption) ?_
           rotate_left
           focus (intro wq hSq; (try dsimp only at hSq); go_simp; (try (with_reducible rfl)); done))
        | (refine wpAnyH_take (i := 7) (v := undef) rfl (by kernel_rfl) (by kernel_rfl) (by kernel_rfl) (fun _ _ _ h => h) (Or.inr ⟨by rfl, rfl⟩) (by assumption) ?_)
        | fail "take 7")
      try simp only [Act.put, List.setIfInBounds_toArray, List.set_cons_zero, List.set_cons_succ, List.getElem_toArray, List.getElem_cons_zero, List.getElem_cons_succ]
      refine wpAnyH_ready (rs := [8]) (by kernel_rfl) (by simp) ?_
      refine AllReadyH.cons (o := _) rfl (fun K hK => ?_) AllReadyH.nil
      go_simp
      refine (HE.out _ (Below.refl _ _).drew).mono ?_; rintro e w2 ⟨rfl, hb2⟩; have hbr2 := (Below.refl wr.heap.size wr).drew.trans hb2
      refine hK.out _ _ ?_ (fun hHeld => ?_)
      · exact e1 hbr2
      clear hK K
      try simp only [Act.put, List.setIfInBounds_toArray, List.set_cons_zero, List.set_cons_succ, List.getElem_toArray, List.getElem_cons_zero, List.getElem_cons_succ]
      (first
        | (refine wpAnyH_take (i := 9) (v := ?_) rfl (by kernel_rfl) (by kernel_rfl) (by kernel_rfl) (fun _ _ _ h => h) (Or.inl ⟨by rfl, ?_⟩) (by assumption) ?_
           rotate_left
           focus (intro wq hSq; (try dsimp only at hSq); go_simp; (try (with_reducible rfl)); done))
        | (refine wpAnyH_take (i := 9) (v := undef) rfl (by kernel_rfl) (by kernel_rfl) (by kernel_rfl) (fun _ _ _ h => h) (Or.inr ⟨by rfl, rfl⟩) (by assumption) ?_)
        | fail "take 9")
      try simp only [Act.put, List.setIfInBounds_toArray, List.set_cons_zero, List.set_cons_succ, List.getElem_toArray, List.getElem_cons_zero, List.getElem_cons_succ]
      refine wpAnyH_done (by kernel_rfl) ?_ _
      clear hHeld
      go_wp2_with fail
      go_roundw
      case rel => exact ⟨k + 1, by omega, by go_num, hbw.trans (hbr2.mono hbw.size)⟩
      case measure => simp [intOf]; omega
    · go_wp2_with fail
      go_ret
      exact ⟨rfl, hbw⟩
end Go.Proofs.YtpfnnjcochhklaaGreatDoor
