/- Corrections: a kind and an aid. -/
import Derived.Test.YtaooidgmphbegaaGreatDoorCorTo
import Derived.Test.YtaooidgmphbegaaGreatDoorAidS
import Derived.Test.YtaooidgmphbegaaGreatDoorAidI3
namespace Go.Proofs.YtaooidgmphbegaaGreatDoor
open Go.RowKit
theorem cor_box (w : World) (k : Int) (z : AidG) (E : TypeId) : (w.alloc (corO k z E)).cell? ⟨w.heap.size, 0, none⟩ = some (.int .i64 k) ∧ AidP (w.alloc (corO k z E)) w.heap.size 1 z := by
  have hb : (w.alloc (corO k z E)).heap[w.heap.size]? = some (.cells #[.int .i64 k, .int .i64 z.a.num, .string z.a.nm, .int .i64 z.a.x, .int .i64 z.a.y, .int .i64 z.a.h, .int .i64 z.a.mr.k, .string z.a.mr.cs, .string z.a.mr.sh, .string z.a.mr.tp, .int .i64 z.a.ch.k, .slice z.A z.n z.c, .string z.a.ch.l, .string z.a.ch.cs, .int .i64 z.a.ch.p, .slice z.B z.m z.d, .int .i64 z.a.it] E (0, 0)) := heap_alloc_new w _
  refine ⟨?_, ?_, ?_, ?_, ?_, ?_, ?_, ?_, ?_, ?_, ?_, ?_, ?_, ?_, ?_, ?_, ?_, by simp⟩
  all_goals
    rw [cell_of_row _ w.heap.size _ _ E (0, 0) hb]
    rfl
def corB (k : Int) (a : AidX) : Bool := inB k 1 3 && aidB a
set_option maxRecDepth 100000 in
set_option maxHeartbeats 1000000 in
theorem szCorrection_c (k : Int) (z : AidG) (left : Int) (w : World) (h : AidRd w z) (h0 : 0 ≤ left) (hl : left ≤ 1048576) :
    Calls Tryz.prog 22 #[corV k z, .int .i64 left] w fun e w' => ∃ r : Int, e = .returned (.int .i64 r) ∧ (r = -1 ∨ 0 ≤ r ∧ r ≤ left ∧ AidBd z.a) ∧ Below w.heap.size w w' := by
  have hp := cor_box w k z 44
  have hb0 : Below w.heap.size w (w.alloc (corO k z 44)) := by (repeat (first | (with_reducible assumption) | (with_reducible exact Below.refl _ _) | exact Nat.le_refl _ | exact Below.size (by with_reducible assumption) | (with_reducible refine Below.drew ?_) | (with_reducible refine below_drewN ?_ _) | (with_reducible refine Below.alloc ?_ ?_ _) | (with_reducible refine Below.setCell ?_ ?_ _) | (with_reducible refine le_alloc ?_ _) | (with_reducible refine le_set ?_ _ _) | (with_reducible refine le_drew ?_) | (with_reducible refine le_drewN ?_ _) | omega | (dsimp only; omega)))
  obtain ⟨w0, hw⟩ : ∃ w0, w.alloc (corO k z 44) = w0 := ⟨_, rfl⟩
  have hz : w.heap.size < w0.heap.size := by rw [← hw]; simp
  rw [hw] at hp hb0
  obtain ⟨k0, hp⟩ := hp
  have hpp := Lib.hid hp
  obtain ⟨c0, c1, c2, c3, c4, c5, c6, c7, c8, c9, c10, c11, c12, c13, c14, c15, _⟩ := hp
  have hh := h.next hb0
  have HH := Lib.hid hh; clear hh
  go_enter Tryz.func22, Tryz.ntmps22
  go_wp2_with fail
  try rw [hw]
  clear hw
  refine (szAid_c z left _ HH.out h0 hl).mono ?_
  rintro e w1 ⟨r, rfl, hr, hb1⟩
  have Hr := Lib.hid hr; clear hr
  replace hb1 := hb0.trans (hb1.mono hb0.size)
  go_wp2_with fail
  · go_ret
    exact ⟨-1, rfl, .inl rfl, hb1⟩
  · go_ret
    exact ⟨r, rfl, Hr.out, hb1⟩
set_option maxRecDepth 100000 in
set_option maxHeartbeats 1000000 in
theorem eqCorrection_c (k : Int) (a : AidX) (A A' B B' : Option Addr) (c c' d d' : Nat) (w : World) (h : AidOk w ⟨a, A, c, B, d⟩) (h' : AidOk w ⟨a, A', c', B', d'⟩) :
    Calls Tryz.prog 26 #[corV k ⟨a, A, c, B, d⟩, corV k ⟨a, A', c', B', d'⟩] w fun e w' => e = .returned (.bool true) ∧ Below w.heap.size w w' := by
  obtain ⟨z, hz⟩ : ∃ z : AidG, z = ⟨a, A, c, B, d⟩ := ⟨_, rfl⟩
  obtain ⟨y, hy⟩ : ∃ y : AidG, y = ⟨a, A', c', B', d'⟩ := ⟨_, rfl⟩
  have hE : ∀ w1, AidOk w1 z → AidOk w1 y → Calls Tryz.prog 19 #[z.val, y.val] w1 fun e w' => e = .returned (.bool true) ∧ Below w1.heap.size w1 w' := by rw [hz, hy]; exact fun w1 h1 h2 => eqAid_c a A A' B B' c c' d d' w1 h1 h2
  rw [← hz] at h ⊢
  rw [← hy] at h' ⊢
  clear hz hy
  have hb0 : Below w.heap.size w ((w.alloc (corO k z 48)).alloc (corO k y 48)) := by (repeat (first | (with_reducible assumption) | (with_reducible exact Below.refl _ _) | exact Nat.le_refl _ | exact Below.size (by with_reducible assumption) | (with_reducible refine Below.drew ?_) | (with_reducible refine below_drewN ?_ _) | (with_reducible refine Below.alloc ?_ ?_ _) | (with_reducible refine Below.setCell ?_ ?_ _) | (with_reducible refine le_alloc ?_ _) | (with_reducible refine le_set ?_ _ _) | (with_reducible refine le_drew ?_) | (with_reducible refine le_drewN ?_ _) | omega | (dsimp only; omega)))
  have p1 := cor_box w k z 48
  have p2 := cor_box (w.alloc (corO k z 48)) k y 48
  have hbx : Below (w.alloc (corO k z 48)).heap.size (w.alloc (corO k z 48)) ((w.alloc (corO k z 48)).alloc (corO k y 48)) := by (repeat (first | (with_reducible assumption) | (with_reducible exact Below.refl _ _) | exact Nat.le_refl _ | exact Below.size (by with_reducible assumption) | (with_reducible refine Below.drew ?_) | (with_reducible refine below_drewN ?_ _) | (with_reducible refine Below.alloc ?_ ?_ _) | (with_reducible refine Below.setCell ?_ ?_ _) | (with_reducible refine le_alloc ?_ _) | (with_reducible refine le_set ?_ _ _) | (with_reducible refine le_drew ?_) | (with_reducible refine le_drewN ?_ _) | omega | (dsimp only; omega)))
  have p3 := keepC hbx w.heap.size (by simp)
  obtain ⟨k1, p1⟩ := p1
  have p1 := p1.next hbx
  have k1 := (p3 _).trans k1
  have hsz : (w.alloc (corO k z 48)).heap.size = w.heap.size + 1 := by simp
  rw [hsz] at p2
  obtain ⟨k2, p2⟩ := p2
  have s1 := h.next hb0
  have s2 := h'.next hb0
  clear p3 hbx hsz
  obtain ⟨w0, hw⟩ : ∃ w0, (w.alloc (corO k z 48)).alloc (corO k y 48) = w0 := ⟨_, rfl⟩
  rw [hw] at k1 p1 k2 p2 hb0 s1 s2
  obtain ⟨c0, c1, c2, c3, c4, c5, c6, c7, c8, c9, c10, c11, c12, c13, c14, c15, _⟩ := p1
  obtain ⟨d0, d1, d2, d3, d4, d5, d6, d7, d8, d9, d10, d11, d12, d13, d14, d15, _⟩ := p2
  have HE := Lib.hid hE; clear hE
  have S1 := Lib.hid s1; clear s1
  have S2 := Lib.hid s2; clear s2
  go_enter Tryz.func26, Tryz.ntmps26
  go_wp2_with fail
  try rw [hw]
  clear hw
  refine (HE.out _ S1.out S2.out).mono ?_
  rintro e w1 ⟨rfl, hb1⟩
  go_wp2_with fail
  go_ret
  exact ⟨rfl, hb0.trans (hb1.mono hb0.size)⟩
set_option maxRecDepth 100000 in
set_option maxHeartbeats 1000000 in
theorem specValidCorrection_c (k : Int) (z : AidG) (w : World) (h : AidOk w z) :
    Calls Tryz.prog 23 #[corV k z] w fun e w' => e = .returned (.bool (corB k z.a)) ∧ Below w.heap.size w w' := by
  have hI : ∀ (b : Nat) (w1 : World), w1.cell? ⟨b, 0, none⟩ = some (.int .i64 k) → AidP w1 b 1 z → AidOk w1 z → Calls Tryz.prog 80 #[.pointer (some ⟨b, 0, none⟩)] w1 fun e w' => e = .returned (.bool (corB k z.a)) ∧ Below w1.heap.size w1 w' := by
    intro b w1 hk hp ho
    have hv : corB k z.a = (inB k 1 3 && aidB z.a) := rfl
    rw [hv]
    have HP := Lib.hid hp; clear hp
    have HO := Lib.hid ho; clear ho
    have Hv := Lib.hid hv; clear hv
    cases h1 : inB k 1 3
    · go_enter Tryz.func80, Tryz.ntmps80
      go_wp2_with (go_at_call 102; refine (l00In_c _ _ _ _).mono ?_; rintro e w9 ⟨rfl, rfl⟩)
      go_ret
      exact ⟨rfl, Below.refl _ _⟩
    · go_enter Tryz.func80, Tryz.ntmps80
      go_wp2_with (first | (go_at_call 102; refine (l00In_c _ _ _ _).mono ?_; rintro e w9 ⟨rfl, rfl⟩) | (go_at_call 64; refine (l12One_c b 1 z _ HP.out HO.out).mono ?_; rintro e w2 ⟨rfl, hb2⟩))
      go_ret
      exact ⟨ret_eq (bool_eq (by simp)), hb2⟩
  have hp := cor_box w k z 48
  have hb0 : Below w.heap.size w (w.alloc (corO k z 48)) := by (repeat (first | (with_reducible assumption) | (with_reducible exact Below.refl _ _) | exact Nat.le_refl _ | exact Below.size (by with_reducible assumption) | (with_reducible refine Below.drew ?_) | (with_reducible refine below_drewN ?_ _) | (with_reducible refine Below.alloc ?_ ?_ _) | (with_reducible refine Below.setCell ?_ ?_ _) | (with_reducible refine le_alloc ?_ _) | (with_reducible refine le_set ?_ _ _) | (with_reducible refine le_drew ?_) | (with_reducible refine le_drewN ?_ _) | omega | (dsimp only; omega)))
  obtain ⟨w0, hw⟩ : ∃ w0, w.alloc (corO k z 48) = w0 := ⟨_, rfl⟩
  have hz : w.heap.size < w0.heap.size := by rw [← hw]; simp
  rw [hw] at hp hb0
  obtain ⟨k0, hp⟩ := hp
  have hpp := Lib.hid hp
  obtain ⟨c0, c1, c2, c3, c4, c5, c6, c7, c8, c9, c10, c11, c12, c13, c14, c15, _⟩ := hp
  have hh := h.next hb0
  have HH := Lib.hid hh; clear hh
  have HI := Lib.hid hI; clear hI
  go_enter Tryz.func23, Tryz.ntmps23
  go_wp2_with fail
  try rw [hw]
  clear hw
  refine (HI.out _ _ k0 hpp.out HH.out).mono ?_
  rintro e w1 ⟨rfl, hb1⟩
  go_wp2_with fail
  go_ret
  exact ⟨rfl, hb0.trans (hb1.mono hb0.size)⟩
set_option maxHeartbeats 400000 in
theorem isCorrectionKind_c (n : Int) (w : World) : Calls Tryz.prog 81 #[.int .i64 n] w fun e w' => e = .returned (.bool (inB n 1 3)) ∧ w = w' := by
  go_enter Tryz.func81, Tryz.ntmps81
  go_wp2_with (go_at_call 90; refine (within_c _ _ _ _).mono ?_; rintro e w1 ⟨rfl, rfl⟩)
  go_ret
  exact ⟨rfl, rfl⟩
set_option maxRecDepth 100000 in
set_option maxHeartbeats 1000000 in
theorem implValidCorrection_c (k : Int) (z : AidG) (w : World) (h : AidOk w z) (ht : Tab w) :
    Calls Tryz.prog 25 #[corV k z] w fun e w' => e = .returned (.bool (corB k z.a)) ∧ Below w.heap.size w w' := by
  have hv : corB k z.a = (inB k 1 3 && aidB z.a) := rfl
  rw [hv]
  have hp := cor_box w k z 48
  have hb0 : Below w.heap.size w (w.alloc (corO k z 48)) := by (repeat (first | (with_reducible assumption) | (with_reducible exact Below.refl _ _) | exact Nat.le_refl _ | exact Below.size (by with_reducible assumption) | (with_reducible refine Below.drew ?_) | (with_reducible refine below_drewN ?_ _) | (with_reducible refine Below.alloc ?_ ?_ _) | (with_reducible refine Below.setCell ?_ ?_ _) | (with_reducible refine le_alloc ?_ _) | (with_reducible refine le_set ?_ _ _) | (with_reducible refine le_drew ?_) | (with_reducible refine le_drewN ?_ _) | omega | (dsimp only; omega)))
  obtain ⟨w0, hw⟩ : ∃ w0, w.alloc (corO k z 48) = w0 := ⟨_, rfl⟩
  have hz : w.heap.size < w0.heap.size := by rw [← hw]; simp
  rw [hw] at hp hb0
  obtain ⟨k0, hp⟩ := hp
  have hpp := Lib.hid hp
  obtain ⟨c0, c1, c2, c3, c4, c5, c6, c7, c8, c9, c10, c11, c12, c13, c14, c15, _⟩ := hp
  have hh := h.next hb0
  have ht0 := ht.next hb0
  have HH := Lib.hid hh; clear hh
  have Hv := Lib.hid hv; clear hv
  cases h1 : inB k 1 3
  · go_enter Tryz.func25, Tryz.ntmps25
    go_wp2_with fail
    try rw [hw]
    clear hw
    refine (isCorrectionKind_c _ _).mono ?_
    rintro e w9 ⟨rfl, rfl⟩
    go_wp2_with fail
    go_ret
    exact ⟨rfl, hb0⟩
  · go_enter Tryz.func25, Tryz.ntmps25
    go_wp2_with fail
    try rw [hw]
    clear hw
    refine (isCorrectionKind_c _ _).mono ?_
    rintro e w9 ⟨rfl, rfl⟩
    go_wp2_with fail
    refine (implValidAid_c z _ HH.out ht0).mono ?_
    rintro e w1 ⟨rfl, hb1⟩
    go_wp2_with fail
    go_ret
    exact ⟨ret_eq (bool_eq (by simp)), hb0.trans (hb1.mono hb0.size)⟩
end Go.Proofs.YtaooidgmphbegaaGreatDoor
