/- The walk of the law FnExactReachOf. -/
import Derived.Test.YtpgcgmbjlecnpaaGreatDoorRchG
import Derived.Test.YtpgcgmbjlecnpaaGreatDoorAidEq
namespace Go.Proofs.YtpgcgmbjlecnpaaGreatDoor
open Go.RowKit
set_option maxHeartbeats 1000000 in
theorem toObserver_c (o : Obv) (w : World) : Calls Tryz.prog 14 #[obvV o] w fun e w' => e = .returned (obvV o) ∧ Below w.heap.size w w' := by
  go_enter Tryz.func14, Tryz.ntmps14
  go_wp2_with fail
  refine (toPoint_c _ _ _).mono ?_
  rintro e w1 ⟨rfl, hb1⟩
  have q0 := keepC hb1 w.heap.size (by simp; omega)
  have q1 := keepC hb1 (w.heap.size + 1) (by simp)
  have q2 := keepC hb1 (w.heap.size + 1 + 1) (by simp)
  have f0 := keepF hb1 w.heap.size (by simp; omega)
  have f1 := keepF hb1 (w.heap.size + 1) (by simp)
  have f2 := keepF hb1 (w.heap.size + 1 + 1) (by simp)
  have bw1 : Below w.heap.size w w1 := Below.trans (by (repeat (first | (with_reducible assumption) | (with_reducible exact Below.refl _ _) | exact Nat.le_refl _ | exact Below.size (by with_reducible assumption) | (with_reducible refine Below.drew ?_) | (with_reducible refine below_drewN ?_ _) | (with_reducible refine Below.alloc ?_ ?_ _) | (with_reducible refine Below.setCell ?_ ?_ _) | (with_reducible refine le_alloc ?_ _) | (with_reducible refine le_set ?_ _ _) | (with_reducible refine le_drew ?_) | (with_reducible refine le_drewN ?_ _) | omega | (dsimp only; omega)))) (hb1.mono (by simp; omega))
  clear hb1
  go_wp2_with fail
  exact bodyPost_ret (v := obvV o) (by simp [results, Tryz.results14, go_sem, q1]) rfl ⟨rfl, by (repeat (first | (with_reducible assumption) | (with_reducible exact Below.refl _ _) | exact Nat.le_refl _ | exact Below.size (by with_reducible assumption) | (with_reducible refine Below.drew ?_) | (with_reducible refine below_drewN ?_ _) | (with_reducible refine Below.alloc ?_ ?_ _) | (with_reducible refine Below.setCell ?_ ?_ _) | (with_reducible refine le_alloc ?_ _) | (with_reducible refine le_set ?_ _ _) | (with_reducible refine le_drew ?_) | (with_reducible refine le_drewN ?_ _) | omega | (dsimp only; omega)))⟩
set_option maxRecDepth 100000 in
set_option maxHeartbeats 4000000 in
theorem lawReachOf_c (z : AidG) (o : Obv) (w : World) (h : AidRd w z) (ht : Tab w) :
    Calls Tryz.prog 4 #[z.val, obvV o] w fun e w' => e = .returned (.bool true) ∧ Below w.heap.size w w' := by
  have hb0 : Below w.heap.size w ((w.alloc (aidO z 33)).alloc (obvO o 50)) := by (repeat (first | (with_reducible assumption) | (with_reducible exact Below.refl _ _) | exact Nat.le_refl _ | exact Below.size (by with_reducible assumption) | (with_reducible refine Below.drew ?_) | (with_reducible refine below_drewN ?_ _) | (with_reducible refine Below.alloc ?_ ?_ _) | (with_reducible refine Below.setCell ?_ ?_ _) | (with_reducible refine le_alloc ?_ _) | (with_reducible refine le_set ?_ _ _) | (with_reducible refine le_drew ?_) | (with_reducible refine le_drewN ?_ _) | omega | (dsimp only; omega)))
  have p1 := (aidp_box w z 33).next (w' := (w.alloc (aidO z 33)).alloc (obvO o 50)) (by (repeat (first | (with_reducible assumption) | (with_reducible exact Below.refl _ _) | exact Nat.le_refl _ | exact Below.size (by with_reducible assumption) | (with_reducible refine Below.drew ?_) | (with_reducible refine below_drewN ?_ _) | (with_reducible refine Below.alloc ?_ ?_ _) | (with_reducible refine Below.setCell ?_ ?_ _) | (with_reducible refine le_alloc ?_ _) | (with_reducible refine le_set ?_ _ _) | (with_reducible refine le_drew ?_) | (with_reducible refine le_drewN ?_ _) | omega | (dsimp only; omega))))
  have p2 := ObvP.box (w.alloc (aidO z 33)) o 50
  have hsz : (w.alloc (aidO z 33)).heap.size = w.heap.size + 1 := by simp
  rw [hsz] at p2
  obtain ⟨w0, hw⟩ : ∃ w0, (w.alloc (aidO z 33)).alloc (obvO o 50) = w0 := ⟨_, rfl⟩
  rw [hw] at p1 p2 hb0
  clear hsz
  have h0 := h.next hb0
  obtain ⟨c0, c1, c2, c3, c4, c5, c6, c7, c8, c9, c10, c11, c12, c13, c14, c15, hz⟩ := id p1
  simp only [Nat.zero_add] at c1 c2 c3 c4 c5 c6 c7 c8 c9 c10 c11 c12 c13 c14 c15
  have H0 := Lib.hid h0; clear h0
  go_enter Tryz.func4, Tryz.ntmps4
  go_wp2_with fail
  try rw [hw]
  clear hw
  refine (szAid_c z _ _ H0.out (by omega) (by omega)).mono ?_
  rintro e w1 ⟨r, rfl, hr, hb1⟩
  have p1 := p1.next hb1
  have p2 := p2.next hb1
  replace hb1 := hb0.trans (hb1.mono hb0.size)
  clear c0 c1 c2 c3 c4 c5 c6 c7 c8 c9 c10 c11 c12 c13 c14 c15 hz
  have Hr := Lib.hid hr; clear hr
  go_wp2_with fail
  · go_ret
    exact ⟨rfl, hb1⟩
  have bd : AidBd z.a := by
    rcases Hr.out with h3 | ⟨_, _, h3⟩
    · omega
    · exact h3
  clear Hr H0
  have s0 : AidOk w z := h.ok bd
  obtain ⟨S0, hS0⟩ : ∃ S0, reaV z.a o = S0 := ⟨_, rfl⟩
  obtain ⟨K0, hK0⟩ : ∃ K0, reaK z.a o = K0 := ⟨_, rfl⟩
  obtain ⟨c0, c1, c2, c3, c4, c5, c6, c7, c8, c9, c10, c11, c12, c13, c14, c15, z1⟩ := id p1
  simp only [Nat.zero_add] at c1 c2 c3 c4 c5 c6 c7 c8 c9 c10 c11 c12 c13 c14 c15
  obtain ⟨d0, d1, d2, d3, z2⟩ := id p2
  have e1 : ∀ {w' : World}, Below w1.heap.size w1 w' → (Below w1.heap.size w1 w' ∧ (∀ x, w'.cell? ⟨w.heap.size, x, none⟩ = w1.cell? ⟨w.heap.size, x, none⟩) ∧ (∀ x, w'.cell? ⟨w.heap.size + 1, x, none⟩ = w1.cell? ⟨w.heap.size + 1, x, none⟩)) := fun hbb => ⟨hbb, keepC hbb _ z1, keepC hbb _ z2⟩
  have hT : ∀ w', Below w1.heap.size w1 w' → Calls Tryz.prog 10 #[z.val] w' fun e w'' => ∃ z' : AidG, e = .returned z'.val ∧ z'.a = z.a ∧ AidNew w'' w'.heap.size z' ∧ Below w'.heap.size w' w'' := fun w' hb => toAid_c z w' (s0.next (hb1.trans (hb.mono hb1.size)))
  have hS : ∀ (A : Option Addr) (c : Nat) (B : Option Addr) (d : Nat) (w' : World), AidOk w' ⟨z.a, A, c, B, d⟩ → Calls Tryz.prog 13 #[AidG.val ⟨z.a, A, c, B, d⟩, obvV o] w' fun e w'' => e = .returned (.tuple #[.int .i64 S0, .int .i64 K0]) ∧ Below w'.heap.size w' w'' := fun A c B d w' hs => by
    have := specReach_c ⟨z.a, A, c, B, d⟩ o w' hs
    rwa [hS0, hK0] at this
  have hI : ∀ (A : Option Addr) (c : Nat) (B : Option Addr) (d : Nat) (w' : World), AidOk w' ⟨z.a, A, c, B, d⟩ → Below w.heap.size w w' → Calls Tryz.prog 15 #[AidG.val ⟨z.a, A, c, B, d⟩, obvV o] w' fun e w'' => e = .returned (.tuple #[.int .i64 S0, .int .i64 K0]) ∧ Below w'.heap.size w' w'' := fun A c B d w' hs hb => by
    have := implReach_c ⟨z.a, A, c, B, d⟩ o w' hs (ht.next hb)
    rwa [hS0, hK0] at this
  have HT := Lib.hid hT; clear hT
  have HS := Lib.hid hS; clear hS
  have HI := Lib.hid hI; clear hI
  clear hS0 hK0 ht h
  as_aux_lemma =>
    go_region_held3 (fun w' => Below w1.heap.size w1 w' ∧ (∀ x, w'.cell? ⟨w.heap.size, x, none⟩ = w1.cell? ⟨w.heap.size, x, none⟩) ∧ (∀ x, w'.cell? ⟨w.heap.size + 1, x, none⟩ = w1.cell? ⟨w.heap.size + 1, x, none⟩)) (first | exact e1 (Below.refl _ _).drew | exact e1 ((Below.refl _ _).drew.trans hb2) | exact e1 (((Below.refl _ _).drew.trans hb2).trans (hb3.mono hb2.size)) | exact e1 ((((Below.refl _ _).drew.trans hb2).trans (hb3.mono hb2.size)).trans (hb4.mono (Nat.le_trans hb2.size hb3.size)))) (first | (go_at_call 10; refine (HT.out _ (Below.refl _ _).drew).mono ?_; rintro e w2 ⟨⟨a2, A2, k2, B2, l2⟩, rfl, ha2, ho2, hb2⟩; simp only at ha2; subst ha2; have s2 := ho2.ok bd) | (go_at_call 14; refine (toObserver_c o _).mono ?_; rintro e w3 ⟨rfl, hb3⟩) | (go_at_call 13; refine (HS.out A2 k2 B2 l2 _ (s2.next hb3)).mono ?_; rintro e w4 ⟨rfl, hb4⟩))
    have b4 := (((Below.refl w1.heap.size w1).drew.trans hb2).trans (hb3.mono hb2.size)).trans (hb4.mono (Nat.le_trans hb2.size hb3.size))
    clear ho2 s2 hb2 hb3 hb4 e1
    as_aux_lemma =>
      go_wp2_with fail
      refine (HT.out _ b4).mono ?_
      rintro e w5 ⟨⟨a5, A5, k5, B5, l5⟩, rfl, ha5, ho5, hb5⟩
      simp only at ha5
      subst ha5
      have s5 := ho5.ok bd
      replace b4 := b4.trans (hb5.mono b4.size)
      clear ho5 hb5 c0 c1 c2 c3 c4 c5 c6 c7 c8 c9 c10 c11 c12 c13 c14 c15 d0 d1 d2 d3
      obtain ⟨w6, hw6⟩ : ∃ w6, w5.alloc (aidO ⟨z.a, A5, k5, B5, l5⟩ 45) = w6 := ⟨_, rfl⟩
      have hb6 : Below w5.heap.size w5 w6 := by rw [← hw6]; (repeat (first | (with_reducible assumption) | (with_reducible exact Below.refl _ _) | exact Nat.le_refl _ | exact Below.size (by with_reducible assumption) | (with_reducible refine Below.drew ?_) | (with_reducible refine below_drewN ?_ _) | (with_reducible refine Below.alloc ?_ ?_ _) | (with_reducible refine Below.setCell ?_ ?_ _) | (with_reducible refine le_alloc ?_ _) | (with_reducible refine le_set ?_ _ _) | (with_reducible refine le_drew ?_) | (with_reducible refine le_drewN ?_ _) | omega | (dsimp only; omega)))
      have g1 : AidP w6 w5.heap.size 0 ⟨z.a, A5, k5, B5, l5⟩ := by rw [← hw6]; exact aidp_box w5 ⟨z.a, A5, k5, B5, l5⟩ 45
      have s6 := s5.next hb6
      replace b4 := b4.trans (hb6.mono b4.size)
      obtain ⟨g, hg⟩ : ∃ g, w5.heap.size = g := ⟨_, rfl⟩
      rw [hg] at g1
      clear hb6 s5
      as_aux_lemma =>
        go_wp2_with fail
        try rw [hw6]
        try rw [hg]
        clear hw6 hg
        obtain ⟨f0, f1, f2, f3, f4, f5, f6, f7, f8, f9, f10, f11, f12, f13, f14, f15, z6⟩ := id g1
        simp only [Nat.zero_add] at f1 f2 f3 f4 f5 f6 f7 f8 f9 f10 f11 f12 f13 f14 f15
        have p6 := p1.next b4
        obtain ⟨d0, d1, d2, d3, y6⟩ := p2.next b4
        have e2 : ∀ {w' : World}, Below w6.heap.size w6 w' → (Below w6.heap.size w6 w' ∧ (∀ x, w'.cell? ⟨g, x, none⟩ = w6.cell? ⟨g, x, none⟩) ∧ (∀ x, w'.cell? ⟨w.heap.size + 1, x, none⟩ = w6.cell? ⟨w.heap.size + 1, x, none⟩)) := fun hbb => ⟨hbb, keepC hbb _ z6, keepC hbb _ y6⟩
        go_region_held3 (fun w' => Below w6.heap.size w6 w' ∧ (∀ x, w'.cell? ⟨g, x, none⟩ = w6.cell? ⟨g, x, none⟩) ∧ (∀ x, w'.cell? ⟨w.heap.size + 1, x, none⟩ = w6.cell? ⟨w.heap.size + 1, x, none⟩)) (first | exact e2 (Below.refl _ _).drew | exact e2 ((Below.refl _ _).drew.trans hb7) | exact e2 (((Below.refl _ _).drew.trans hb7).trans (hb8.mono hb7.size))) (first | (go_at_call 14; refine (toObserver_c o _).mono ?_; rintro e w7 ⟨rfl, hb7⟩) | (go_at_call 15; refine (HI.out A5 k5 B5 l5 _ (s6.next ((Below.refl _ _).drew.trans hb7)) (hb1.trans ((b4.trans (((Below.refl _ _).drew.trans hb7).mono b4.size)).mono hb1.size))).mono ?_; rintro e w8 ⟨rfl, hb8⟩))
        have b8 := ((Below.refl w6.heap.size w6).drew.trans hb7).trans (hb8.mono hb7.size)
        have s8 := s6.next b8
        have g8 := g1.next b8
        have p8 := p6.next b8
        replace b4 := b4.trans (b8.mono b4.size)
        have z8 := g8.hb
        clear e2 hb7 hb8 b8 s6 g1 g8 p6
        obtain ⟨c0, c1, c2, c3, c4, c5, c6, c7, c8, c9, c10, c11, c12, c13, c14, c15, y8⟩ := p8
        simp only [Nat.zero_add] at c1 c2 c3 c4 c5 c6 c7 c8 c9 c10 c11 c12 c13 c14 c15
        as_aux_lemma =>
          go_wp2_with fail
          have e3 : ∀ {w' : World}, Below w8.heap.size w8 w' → (Below w8.heap.size w8 w' ∧ (∀ x, w'.cell? ⟨g, x, none⟩ = w8.cell? ⟨g, x, none⟩) ∧ (∀ x, w'.cell? ⟨w.heap.size, x, none⟩ = w8.cell? ⟨w.heap.size, x, none⟩)) := fun hbb => ⟨hbb, keepC hbb _ z8, keepC hbb _ y8⟩
          go_region_held3 (fun w' => Below w8.heap.size w8 w' ∧ (∀ x, w'.cell? ⟨g, x, none⟩ = w8.cell? ⟨g, x, none⟩) ∧ (∀ x, w'.cell? ⟨w.heap.size, x, none⟩ = w8.cell? ⟨w.heap.size, x, none⟩)) (first | exact e3 (Below.refl _ _).drew | exact e3 ((Below.refl _ _).drew.trans hb9) | exact e3 (((Below.refl _ _).drew.trans hb9).trans (hb10.mono hb9.size))) (first | (go_at_call 10; refine (HT.out _ b4.drew).mono ?_; rintro e w9 ⟨⟨a9, A9, k9, B9, l9⟩, rfl, ha9, ho9, hb9⟩; simp only at ha9; subst ha9) | (go_at_call 12; refine (eqAid_c z.a A5 A9 B5 B9 k5 k9 l5 l9 _ (s8.next ((Below.refl _ _).drew.trans hb9)) (ho9.ok bd)).mono ?_; rintro e w10 ⟨rfl, hb10⟩))
          have b9 := ((Below.refl w8.heap.size w8).drew.trans hb9).trans (hb10.mono hb9.size)
          have b10 := hb1.trans ((b4.trans (b9.mono b4.size)).mono hb1.size)
          go_wp2_with fail
          go_ret
          exact ⟨rfl, b10⟩
end Go.Proofs.YtpgcgmbjlecnpaaGreatDoor
