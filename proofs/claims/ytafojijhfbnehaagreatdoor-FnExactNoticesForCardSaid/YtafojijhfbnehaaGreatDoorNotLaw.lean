/- Notices: sizes, equality. -/
import Derived.Test.YtafojijhfbnehaaGreatDoorNotTo
namespace Go.Proofs.YtafojijhfbnehaaGreatDoor
open Go.RowKit
theorem nt_box (w : World) (x : NtX) (z : AidG) (E : TypeId) : NtP (w.alloc (ntO x z E)) w.heap.size 0 x z := by
  have hb : (w.alloc (ntO x z E)).heap[w.heap.size]? = some (.cells #[.int .i64 x.m, .int .i64 x.d, .int .i64 x.k, .int .i64 x.t, .int .i64 z.a.num, .string z.a.nm, .int .i64 z.a.x, .int .i64 z.a.y, .int .i64 z.a.h, .int .i64 z.a.mr.k, .string z.a.mr.cs, .string z.a.mr.sh, .string z.a.mr.tp, .int .i64 z.a.ch.k, .slice z.A z.n z.c, .string z.a.ch.l, .string z.a.ch.cs, .int .i64 z.a.ch.p, .slice z.B z.m z.d, .int .i64 z.a.it] E (0, 0)) := heap_alloc_new w _
  refine ⟨?_, ?_, ?_, ?_, ⟨?_, ?_, ?_, ?_, ?_, ?_, ?_, ?_, ?_, ?_, ?_, ?_, ?_, ?_, ?_, ?_, by simp⟩⟩
  all_goals
    rw [cell_of_row _ w.heap.size _ _ E (0, 0) hb]
    rfl
set_option maxRecDepth 100000 in
set_option maxHeartbeats 1000000 in
theorem szNotice_c (x : NtX) (z : AidG) (left : Int) (w : World) (h : AidRd w z) (h0 : 0 ≤ left) (hl : left ≤ 1048576) :
    Calls Tryz.prog 19 #[ntV x z, .int .i64 left] w fun e w' => ∃ r : Int, e = .returned (.int .i64 r) ∧ (r = -1 ∨ 0 ≤ r ∧ r ≤ left ∧ AidBd z.a) ∧ Below w.heap.size w w' := by
  have hp := nt_box w x z 45
  have hb0 : Below w.heap.size w (w.alloc (ntO x z 45)) := by (repeat (first | (with_reducible assumption) | (with_reducible exact Below.refl _ _) | exact Nat.le_refl _ | exact Below.size (by with_reducible assumption) | (with_reducible refine Below.drew ?_) | (with_reducible refine below_drewN ?_ _) | (with_reducible refine Below.alloc ?_ ?_ _) | (with_reducible refine Below.setCell ?_ ?_ _) | (with_reducible refine le_alloc ?_ _) | (with_reducible refine le_set ?_ _ _) | (with_reducible refine le_drew ?_) | (with_reducible refine le_drewN ?_ _) | omega | (dsimp only; omega)))
  obtain ⟨w0, hw⟩ : ∃ w0, w.alloc (ntO x z 45) = w0 := ⟨_, rfl⟩
  have hz : w.heap.size < w0.heap.size := by rw [← hw]; simp
  rw [hw] at hp hb0
  obtain ⟨k0, k1, k2, k3, hp⟩ := hp.zero
  have hpp := Lib.hid hp
  obtain ⟨c0, c1, c2, c3, c4, c5, c6, c7, c8, c9, c10, c11, c12, c13, c14, c15, _⟩ := hp
  have hh := h.next hb0
  have HH := Lib.hid hh; clear hh
  go_enter Tryz.func19, Tryz.ntmps19
  go_wp2_with fail
  try rw [hw]
  clear hw
  refine (szAid_c z left _ HH.out h0 hl).mono ?_
  rintro e w1 ⟨r, rfl, hr, hb1⟩
  have Hr := Lib.hid hr; clear hr
  replace hb1 := hb0.trans (hb1.mono hb0.size)
  go_wp2_with fail
  · go_ret
    exact ⟨-1, rfl, .inl rfl, hb1⟩
  · go_ret
    exact ⟨r, rfl, Hr.out, hb1⟩
set_option maxRecDepth 100000 in
set_option maxHeartbeats 1000000 in
theorem eqNotice_c (x : NtX) (a : AidX) (A A' B B' : Option Addr) (c c' d d' : Nat) (w : World) (h : AidOk w ⟨a, A, c, B, d⟩) (h' : AidOk w ⟨a, A', c', B', d'⟩) :
    Calls Tryz.prog 23 #[ntV x ⟨a, A, c, B, d⟩, ntV x ⟨a, A', c', B', d'⟩] w fun e w' => e = .returned (.bool true) ∧ Below w.heap.size w w' := by
  obtain ⟨z, hz⟩ : ∃ z : AidG, z = ⟨a, A, c, B, d⟩ := ⟨_, rfl⟩
  obtain ⟨y, hy⟩ : ∃ y : AidG, y = ⟨a, A', c', B', d'⟩ := ⟨_, rfl⟩
  have hE : ∀ w1, AidOk w1 z → AidOk w1 y → Calls Tryz.prog 49 #[z.val, y.val] w1 fun e w' => e = .returned (.bool true) ∧ Below w1.heap.size w1 w' := by rw [hz, hy]; exact fun w1 h1 h2 => eqAid_c a A A' B B' c c' d d' w1 h1 h2
  rw [← hz] at h ⊢
  rw [← hy] at h' ⊢
  clear hz hy
  have hb0 : Below w.heap.size w ((w.alloc (ntO x z 55)).alloc (ntO x y 55)) := by (repeat (first | (with_reducible assumption) | (with_reducible exact Below.refl _ _) | exact Nat.le_refl _ | exact Below.size (by with_reducible assumption) | (with_reducible refine Below.drew ?_) | (with_reducible refine below_drewN ?_ _) | (with_reducible refine Below.alloc ?_ ?_ _) | (with_reducible refine Below.setCell ?_ ?_ _) | (with_reducible refine le_alloc ?_ _) | (with_reducible refine le_set ?_ _ _) | (with_reducible refine le_drew ?_) | (with_reducible refine le_drewN ?_ _) | omega | (dsimp only; omega)))
  have p1 := nt_box w x z 55
  have p2 := nt_box (w.alloc (ntO x z 55)) x y 55
  have hbx : Below (w.alloc (ntO x z 55)).heap.size (w.alloc (ntO x z 55)) ((w.alloc (ntO x z 55)).alloc (ntO x y 55)) := by (repeat (first | (with_reducible assumption) | (with_reducible exact Below.refl _ _) | exact Nat.le_refl _ | exact Below.size (by with_reducible assumption) | (with_reducible refine Below.drew ?_) | (with_reducible refine below_drewN ?_ _) | (with_reducible refine Below.alloc ?_ ?_ _) | (with_reducible refine Below.setCell ?_ ?_ _) | (with_reducible refine le_alloc ?_ _) | (with_reducible refine le_set ?_ _ _) | (with_reducible refine le_drew ?_) | (with_reducible refine le_drewN ?_ _) | omega | (dsimp only; omega)))
  have p1 := p1.next hbx
  have hsz : (w.alloc (ntO x z 55)).heap.size = w.heap.size + 1 := by simp
  rw [hsz] at p2
  have s1 := h.next hb0
  have s2 := h'.next hb0
  clear hbx hsz
  obtain ⟨w0, hw⟩ : ∃ w0, (w.alloc (ntO x z 55)).alloc (ntO x y 55) = w0 := ⟨_, rfl⟩
  rw [hw] at p1 p2 hb0 s1 s2
  obtain ⟨k0, k1, k2, k3, ⟨c0, c1, c2, c3, c4, c5, c6, c7, c8, c9, c10, c11, c12, c13, c14, c15, _⟩⟩ := p1.zero
  obtain ⟨g0, g1, g2, g3, ⟨d0, d1, d2, d3, d4, d5, d6, d7, d8, d9, d10, d11, d12, d13, d14, d15, _⟩⟩ := p2.zero
  have HE := Lib.hid hE; clear hE
  have S1 := Lib.hid s1; clear s1
  have S2 := Lib.hid s2; clear s2
  go_enter Tryz.func23, Tryz.ntmps23
  go_wp2_with fail
  try rw [hw]
  clear hw
  refine (HE.out _ S1.out S2.out).mono ?_
  rintro e w1 ⟨rfl, hb1⟩
  go_wp2_with fail
  go_ret
  exact ⟨rfl, hb0.trans (hb1.mono hb0.size)⟩
end Go.Proofs.YtafojijhfbnehaaGreatDoor
