
/- The laws' eqAid, at equal values. -/
import Derived.Test.YtpfnnjcochhklaaGreatDoorAidLaw
namespace Go.Proofs.YtpfnnjcochhklaaGreatDoor
open Go.RowKit
set_option maxRecDepth 100000 in
set_option maxHeartbeats 2000000 in
theorem eqAid_c (a : AidX) (A A' B B' : Option Addr) (c c' d d' : Nat) (w : World) (h : AidOk w ⟨a, A, c, B, d⟩) (h' : AidOk w ⟨a, A', c', B', d'⟩) :
    Calls Tryz.prog 36 #[AidG.val ⟨a, A, c, B, d⟩, AidG.val ⟨a, A', c', B', d'⟩] w fun e w' => e = .returned (.bool true) ∧ Below w.heap.size w w' := by
  have ne : ∀ u : ByteArray, (u.toList != u.toList) = false := fun u => by simp
  obtain ⟨num, nm, x, y, hh, ⟨mk, mcs, msh, mtp⟩, ⟨ck, gs, l, cs, p⟩, secs, it⟩ := a
  obtain ⟨sl, ss, bd⟩ := h
  obtain ⟨sl', ss', _⟩ := h'
  have hg := bd.gs
  have hm := bd.ss
  simp only [AidG.n, AidG.m] at *
  have hb0 : Below w.heap.size w ((w.alloc (.cells #[.int .i64 num, .string nm, .int .i64 x, .int .i64 y, .int .i64 hh, .int .i64 mk, .string mcs, .string msh, .string mtp, .int .i64 ck, .slice A gs.length c, .string l, .string cs, .int .i64 p, .slice B secs.length d, .int .i64 it] 56)).alloc
    (.cells #[.int .i64 num, .string nm, .int .i64 x, .int .i64 y, .int .i64 hh, .int .i64 mk, .string mcs, .string msh, .string mtp, .int .i64 ck, .slice A' gs.length c', .string l, .string cs, .int .i64 p, .slice B' secs.length d', .int .i64 it] 56)) := by (repeat (first | (with_reducible assumption) | (with_reducible exact Below.refl _ _) | exact Nat.le_refl _ | exact Below.size (by with_reducible assumption) | (with_reducible refine Below.drew ?_) | (with_reducible refine below_drewN ?_ _) | (with_reducible refine Below.alloc ?_ ?_ _) | (with_reducible refine Below.setCell ?_ ?_ _) | (with_reducible refine le_alloc ?_ _) | (with_reducible refine le_set ?_ _ _) | (with_reducible refine le_drew ?_) | (with_reducible refine le_drewN ?_ _) | omega | (dsimp only; omega)))
  have cp := aidp_box w ⟨⟨num, nm, x, y, hh, ⟨mk, mcs, msh, mtp⟩, ⟨ck, gs, l, cs, p⟩, secs, it⟩, A, c, B, d⟩ 56
  have cq := aidp_box (w.alloc (aidO ⟨⟨num, nm, x, y, hh, ⟨mk, mcs, msh, mtp⟩, ⟨ck, gs, l, cs, p⟩, secs, it⟩, A, c, B, d⟩ 56)) ⟨⟨num, nm, x, y, hh, ⟨mk, mcs, msh, mtp⟩, ⟨ck, gs, l, cs, p⟩, secs, it⟩, A', c', B', d'⟩ 56
  replace cp := cp.next (Below.alloc (Below.refl _ _) (Nat.le_refl _) (aidO ⟨⟨num, nm, x, y, hh, ⟨mk, mcs, msh, mtp⟩, ⟨ck, gs, l, cs, p⟩, secs, it⟩, A', c', B', d'⟩ 56))
  have hsz : (w.alloc (aidO ⟨⟨num, nm, x, y, hh, ⟨mk, mcs, msh, mtp⟩, ⟨ck, gs, l, cs, p⟩, secs, it⟩, A, c, B, d⟩ 56)).heap.size = w.heap.size + 1 := by simp
  rw [hsz] at cq
  simp only [aidO, AidG.cells, AidG.n, AidG.m] at cp cq
  obtain ⟨a0, a1, a2, a3, a4, a5, a6, a7, a8, a9, a10, a11, a12, a13, a14, a15, za⟩ := cp
  obtain ⟨b0, b1, b2, b3, b4, b5, b6, b7, b8, b9, b10, b11, b12, b13, b14, b15, zb⟩ := cq
  simp only [Nat.zero_add, AidG.n, AidG.m] at a1 a2 a3 a4 a5 a6 a7 a8 a9 a10 a11 a12 a13 a14 a15 b1 b2 b3 b4 b5 b6 b7 b8 b9 b10 b11 b12 b13 b14 b15
  have sl0 := sl.next hb0
  have sl0' := sl'.next hb0
  have ss0 := ss.next hb0
  have ss0' := ss'.next hb0
  go_enter Tryz.func36, Tryz.ntmps36
  go_wp2_with fail
  generalize (w.alloc (.cells #[.int .i64 num, .string nm, .int .i64 x, .int .i64 y, .int .i64 hh, .int .i64 mk, .string mcs, .string msh, .string mtp, .int .i64 ck, .slice A gs.length c, .string l, .string cs, .int .i64 p, .slice B secs.length d, .int .i64 it] 56)).alloc
    (.cells #[.int .i64 num, .string nm, .int .i64 x, .int .i64 y, .int .i64 hh, .int .i64 mk, .string mcs, .string msh, .string mtp, .int .i64 ck, .slice A' gs.length c', .string l, .string cs, .int .i64 p, .slice B' secs.length d', .int .i64 it] 56) = w0 at *
  refine (eqPoint_c x y _).mono ?_
  rintro e w1 ⟨rfl, hb1⟩
  have q1 := keepC hb1 w.heap.size za
  have r1 := keepC hb1 (w.heap.size + 1) zb
  have y1 := Nat.lt_of_lt_of_le za hb1.size
  have z1 := Nat.lt_of_lt_of_le zb hb1.size
  go_wp2_with fail
  refine (eqMark_c ⟨mk, mcs, msh, mtp⟩ _).mono ?_
  rintro e w2 ⟨rfl, hb2⟩
  have q2 := keepC hb2 w.heap.size y1
  have r2 := keepC hb2 (w.heap.size + 1) z1
  have y2 := Nat.lt_of_lt_of_le y1 hb2.size
  have z2 := Nat.lt_of_lt_of_le z1 hb2.size
  replace hb2 := hb1.trans (hb2.mono hb1.size)
  go_wp2_with fail
  refine (eqCharacter_c ck A A' gs.length c c' l cs p gs _ (sl0.next hb2) (sl0'.next hb2) hg).mono ?_
  rintro e w3 ⟨rfl, hb3⟩
  have q3 := keepC hb3 w.heap.size y2
  have r3 := keepC hb3 (w.heap.size + 1) z2
  have y3 := Nat.lt_of_lt_of_le y2 hb3.size
  have z3 := Nat.lt_of_lt_of_le z2 hb3.size
  replace hb3 := hb2.trans (hb3.mono hb2.size)
  go_wp2_with fail
  refine (eqSectorS_c B B' secs.length d d' secs _ (ss0.next hb3) (ss0'.next hb3) (by unfold maxLen; omega)).mono ?_
  rintro e w4 ⟨rfl, hb4⟩
  have q4 := keepC hb4 w.heap.size y3
  have r4 := keepC hb4 (w.heap.size + 1) z3
  replace hb4 := hb3.trans (hb4.mono hb3.size)
  go_wp2_with fail
  go_ret
  exact ⟨rfl, hb0.trans (hb4.mono hb0.size)⟩
end Go.Proofs.YtpfnnjcochhklaaGreatDoor
