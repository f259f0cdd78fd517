/- The walk of the law FnExactMarksDanger. -/
import Derived.Test.YtpgcgmbjlecnpaaGreatDoorDanG
import Derived.Test.YtpgcgmbjlecnpaaGreatDoorDanT
namespace Go.Proofs.YtpgcgmbjlecnpaaGreatDoor
open Go.RowKit
set_option maxRecDepth 100000 in
set_option maxHeartbeats 4000000 in
theorem lawMarksDanger_c (d : Dang) (z : AidG) (y : Int) (w : World) (h : AidRd w z) (ht : Tab w) (hn : d.nm.size ≤ maxLen) :
    Calls Tryz.prog 3 #[danV d, z.val, .int .i64 y] w fun e w' => e = .returned (.bool true) ∧ Below w.heap.size w w' := by
  have hb0 : Below w.heap.size w ((w.alloc (danO d 25)).alloc (aidO z 33)) := by (repeat (first | (with_reducible assumption) | (with_reducible exact Below.refl _ _) | exact Nat.le_refl _ | exact Below.size (by with_reducible assumption) | (with_reducible refine Below.drew ?_) | (with_reducible refine below_drewN ?_ _) | (with_reducible refine Below.alloc ?_ ?_ _) | (with_reducible refine Below.setCell ?_ ?_ _) | (with_reducible refine le_alloc ?_ _) | (with_reducible refine le_set ?_ _ _) | (with_reducible refine le_drew ?_) | (with_reducible refine le_drewN ?_ _) | omega | (dsimp only; omega)))
  have p1 := (DanP.box w d 25).next (w' := (w.alloc (danO d 25)).alloc (aidO z 33)) (by (repeat (first | (with_reducible assumption) | (with_reducible exact Below.refl _ _) | exact Nat.le_refl _ | exact Below.size (by with_reducible assumption) | (with_reducible refine Below.drew ?_) | (with_reducible refine below_drewN ?_ _) | (with_reducible refine Below.alloc ?_ ?_ _) | (with_reducible refine Below.setCell ?_ ?_ _) | (with_reducible refine le_alloc ?_ _) | (with_reducible refine le_set ?_ _ _) | (with_reducible refine le_drew ?_) | (with_reducible refine le_drewN ?_ _) | omega | (dsimp only; omega))))
  have p2 := aidp_box (w.alloc (danO d 25)) z 33
  have hsz : (w.alloc (danO d 25)).heap.size = w.heap.size + 1 := by simp
  rw [hsz] at p2
  obtain ⟨w0, hw⟩ : ∃ w0, (w.alloc (danO d 25)).alloc (aidO z 33) = w0 := ⟨_, rfl⟩
  rw [hw] at p1 p2 hb0
  clear hsz
  have h0 := h.next hb0
  obtain ⟨d0, d1, d2, d3, hz1⟩ := id p1
  obtain ⟨c0, c1, c2, c3, c4, c5, c6, c7, c8, c9, c10, c11, c12, c13, c14, c15, hz⟩ := id p2
  simp only [Nat.zero_add] at c1 c2 c3 c4 c5 c6 c7 c8 c9 c10 c11 c12 c13 c14 c15
  have H0 := Lib.hid h0; clear h0
  go_enter Tryz.func3, Tryz.ntmps3
  go_wp2_with fail
  try rw [hw]
  clear hw
  refine (szDanger_c d _ _ hn (by omega) (by omega)).mono ?_
  rintro e w1 ⟨r, rfl, hr, hb1⟩
  have p1 := p1.next hb1
  have p2 := p2.next hb1
  have h1 := H0.out.next hb1
  replace hb1 := hb0.trans (hb1.mono hb0.size)
  clear c0 c1 c2 c3 c4 c5 c6 c7 c8 c9 c10 c11 c12 c13 c14 c15 hz d0 d1 d2 d3 hz1 H0
  have Hr := Lib.hid hr; clear hr
  have H1 := Lib.hid h1; clear h1
  obtain ⟨c0, c1, c2, c3, c4, c5, c6, c7, c8, c9, c10, c11, c12, c13, c14, c15, hz⟩ := id p2
  simp only [Nat.zero_add] at c1 c2 c3 c4 c5 c6 c7 c8 c9 c10 c11 c12 c13 c14 c15
  go_wp2_with fail
  · go_ret
    exact ⟨rfl, hb1⟩
  have hrb : 0 ≤ r ∧ r ≤ 1048576 := by
    rcases Hr.out with h3 | ⟨h3, h4, _⟩
    · omega
    · omega
  refine (szAid_c z _ _ H1.out hrb.1 hrb.2).mono ?_
  clear Hr
  rintro e w2 ⟨r2, rfl, hr, hb2⟩
  have p1 := p1.next hb2
  have p2 := p2.next hb2
  replace hb1 := hb1.trans (hb2.mono hb1.size)
  clear c0 c1 c2 c3 c4 c5 c6 c7 c8 c9 c10 c11 c12 c13 c14 c15 hz H1 hb2
  have Hr := Lib.hid hr; clear hr
  have Hrb := Lib.hid hrb; clear hrb
  go_wp2_with fail
  · go_ret
    exact ⟨rfl, hb1⟩
  have bd : AidBd z.a := by
    rcases Hr.out with h3 | ⟨_, _, h3⟩
    · omega
    · exact h3
  clear Hr Hrb
  have s0 : AidOk w z := h.ok bd
  obtain ⟨M0, hM0⟩ : ∃ M0, marksDB d z.a y = M0 := ⟨_, rfl⟩
  obtain ⟨c0, c1, c2, c3, c4, c5, c6, c7, c8, c9, c10, c11, c12, c13, c14, c15, z1⟩ := id p2
  simp only [Nat.zero_add] at c1 c2 c3 c4 c5 c6 c7 c8 c9 c10 c11 c12 c13 c14 c15
  obtain ⟨d0, d1, d2, d3, z2⟩ := id p1
  have e1 : ∀ {w' : World}, Below w2.heap.size w2 w' → (Below w2.heap.size w2 w' ∧ (∀ x, w'.cell? ⟨w.heap.size, x, none⟩ = w2.cell? ⟨w.heap.size, x, none⟩) ∧ (∀ x, w'.cell? ⟨w.heap.size + 1, x, none⟩ = w2.cell? ⟨w.heap.size + 1, x, none⟩)) := fun hbb => ⟨hbb, keepC hbb _ z2, keepC hbb _ z1⟩
  have hT : ∀ w', Below w2.heap.size w2 w' → Calls Tryz.prog 10 #[z.val] w' fun e w'' => ∃ z' : AidG, e = .returned z'.val ∧ z'.a = z.a ∧ AidNew w'' w'.heap.size z' ∧ Below w'.heap.size w' w'' := fun w' hb => toAid_c z w' (s0.next (hb1.trans (hb.mono hb1.size)))
  have hS : ∀ (A : Option Addr) (c : Nat) (B : Option Addr) (k : Nat) (w' : World), AidOk w' ⟨z.a, A, c, B, k⟩ → Calls Tryz.prog 8 #[danV d, AidG.val ⟨z.a, A, c, B, k⟩, .int .i64 y] w' fun e w'' => e = .returned (.bool M0) ∧ Below w'.heap.size w' w'' := fun A c B k w' hs => by
    have := specMarks_c d ⟨z.a, A, c, B, k⟩ y w' hs hn
    rwa [hM0] at this
  have hI : ∀ (A : Option Addr) (c : Nat) (B : Option Addr) (k : Nat) (w' : World), AidOk w' ⟨z.a, A, c, B, k⟩ → Below w.heap.size w w' → Calls Tryz.prog 11 #[danV d, AidG.val ⟨z.a, A, c, B, k⟩, .int .i64 y] w' fun e w'' => e = .returned (.bool M0) ∧ Below w'.heap.size w' w'' := fun A c B k w' hs hb => by
    have := implMarks_c d ⟨z.a, A, c, B, k⟩ y w' hs (ht.next hb) hn
    rwa [hM0] at this
  have HT := Lib.hid hT; clear hT
  have HS := Lib.hid hS; clear hS
  have HI := Lib.hid hI; clear hI
  have Hn := Lib.hid hn; clear hn
  clear hM0 ht h
  as_aux_lemma =>
    go_region_held3 (fun w' => Below w2.heap.size w2 w' ∧ (∀ x, w'.cell? ⟨w.heap.size, x, none⟩ = w2.cell? ⟨w.heap.size, x, none⟩) ∧ (∀ x, w'.cell? ⟨w.heap.size + 1, x, none⟩ = w2.cell? ⟨w.heap.size + 1, x, none⟩)) (first | exact e1 (Below.refl _ _).drew | exact e1 ((Below.refl _ _).drew.trans hb2) | exact e1 (((Below.refl _ _).drew.trans hb2).trans (hb3.mono hb2.size)) | exact e1 ((((Below.refl _ _).drew.trans hb2).trans (hb3.mono hb2.size)).trans (hb4.mono (Nat.le_trans hb2.size hb3.size)))) (first | (go_at_call 9; refine (toDanger_c d _).mono ?_; rintro e w3 ⟨rfl, hb2⟩) | (go_at_call 10; refine (HT.out _ ((Below.refl _ _).drew.trans hb2)).mono ?_; rintro e w4 ⟨⟨a2, A2, k2, B2, l2⟩, rfl, ha2, ho2, hb3⟩; simp only at ha2; subst ha2; have s2 := ho2.ok bd) | (go_at_call 8; refine (HS.out A2 k2 B2 l2 _ s2).mono ?_; rintro e w5 ⟨rfl, hb4⟩))
    have b4 := (((Below.refl w2.heap.size w2).drew.trans hb2).trans (hb3.mono hb2.size)).trans (hb4.mono (Nat.le_trans hb2.size hb3.size))
    clear ho2 s2 hb2 hb3 hb4 e1
    as_aux_lemma =>
      go_wp2_with fail
      refine (HT.out _ b4).mono ?_
      rintro e w6 ⟨⟨a5, A5, k5, B5, l5⟩, rfl, ha5, ho5, hb5⟩
      simp only at ha5
      subst ha5
      have s5 := ho5.ok bd
      replace b4 := b4.trans (hb5.mono b4.size)
      clear ho5 hb5 c0 c1 c2 c3 c4 c5 c6 c7 c8 c9 c10 c11 c12 c13 c14 c15 d0 d1 d2 d3
      obtain ⟨w7, hw7⟩ : ∃ w7, w6.alloc (aidO ⟨z.a, A5, k5, B5, l5⟩ 45) = w7 := ⟨_, rfl⟩
      have hb6 : Below w6.heap.size w6 w7 := by rw [← hw7]; (repeat (first | (with_reducible assumption) | (with_reducible exact Below.refl _ _) | exact Nat.le_refl _ | exact Below.size (by with_reducible assumption) | (with_reducible refine Below.drew ?_) | (with_reducible refine below_drewN ?_ _) | (with_reducible refine Below.alloc ?_ ?_ _) | (with_reducible refine Below.setCell ?_ ?_ _) | (with_reducible refine le_alloc ?_ _) | (with_reducible refine le_set ?_ _ _) | (with_reducible refine le_drew ?_) | (with_reducible refine le_drewN ?_ _) | omega | (dsimp only; omega)))
      have g1 : AidP w7 w6.heap.size 0 ⟨z.a, A5, k5, B5, l5⟩ := by rw [← hw7]; exact aidp_box w6 ⟨z.a, A5, k5, B5, l5⟩ 45
      have s6 := s5.next hb6
      replace b4 := b4.trans (hb6.mono b4.size)
      obtain ⟨g, hg⟩ : ∃ g, w6.heap.size = g := ⟨_, rfl⟩
      rw [hg] at g1
      clear hb6 s5
      as_aux_lemma =>
        go_wp2_with fail
        try rw [hw7]
        try rw [hg]
        clear hw7 hg
        obtain ⟨f0, f1, f2, f3, f4, f5, f6, f7, f8, f9, f10, f11, f12, f13, f14, f15, z6⟩ := id g1
        simp only [Nat.zero_add] at f1 f2 f3 f4 f5 f6 f7 f8 f9 f10 f11 f12 f13 f14 f15
        have p6 := p2.next b4
        obtain ⟨d0, d1, d2, d3, y6⟩ := p1.next b4
        have e2 : ∀ {w' : World}, Below w7.heap.size w7 w' → (Below w7.heap.size w7 w' ∧ (∀ x, w'.cell? ⟨g, x, none⟩ = w7.cell? ⟨g, x, none⟩) ∧ (∀ x, w'.cell? ⟨w.heap.size, x, none⟩ = w7.cell? ⟨w.heap.size, x, none⟩)) := fun hbb => ⟨hbb, keepC hbb _ z6, keepC hbb _ y6⟩
        go_region_held3 (fun w' => Below w7.heap.size w7 w' ∧ (∀ x, w'.cell? ⟨g, x, none⟩ = w7.cell? ⟨g, x, none⟩) ∧ (∀ x, w'.cell? ⟨w.heap.size, x, none⟩ = w7.cell? ⟨w.heap.size, x, none⟩)) (first | exact e2 (Below.refl _ _).drew | exact e2 ((Below.refl _ _).drew.trans hb7) | exact e2 (((Below.refl _ _).drew.trans hb7).trans (hb8.mono hb7.size))) (first | (go_at_call 9; refine (toDanger_c d _).mono ?_; rintro e w8 ⟨rfl, hb7⟩) | (go_at_call 11; refine (HI.out A5 k5 B5 l5 _ (s6.next ((Below.refl _ _).drew.trans hb7)) (hb1.trans ((b4.trans (((Below.refl _ _).drew.trans hb7).mono b4.size)).mono hb1.size))).mono ?_; rintro e w9 ⟨rfl, hb8⟩))
        have b8 := ((Below.refl w7.heap.size w7).drew.trans hb7).trans (hb8.mono hb7.size)
        have s8 := s6.next b8
        have g8 := g1.next b8
        have p8 := p6.next b8
        replace b4 := b4.trans (b8.mono b4.size)
        have z8 := g8.hb
        clear e2 hb7 hb8 b8 s6 g1 g8 p6
        obtain ⟨c0, c1, c2, c3, c4, c5, c6, c7, c8, c9, c10, c11, c12, c13, c14, c15, y8⟩ := p8
        simp only [Nat.zero_add] at c1 c2 c3 c4 c5 c6 c7 c8 c9 c10 c11 c12 c13 c14 c15
        as_aux_lemma =>
          go_wp2_with fail
          have e3 : ∀ {w' : World}, Below w9.heap.size w9 w' → (Below w9.heap.size w9 w' ∧ (∀ x, w'.cell? ⟨g, x, none⟩ = w9.cell? ⟨g, x, none⟩) ∧ (∀ x, w'.cell? ⟨w.heap.size + 1, x, none⟩ = w9.cell? ⟨w.heap.size + 1, x, none⟩)) := fun hbb => ⟨hbb, keepC hbb _ z8, keepC hbb _ y8⟩
          go_region_held3 (fun w' => Below w9.heap.size w9 w' ∧ (∀ x, w'.cell? ⟨g, x, none⟩ = w9.cell? ⟨g, x, none⟩) ∧ (∀ x, w'.cell? ⟨w.heap.size + 1, x, none⟩ = w9.cell? ⟨w.heap.size + 1, x, none⟩)) (first | exact e3 (Below.refl _ _).drew | exact e3 ((Below.refl _ _).drew.trans hb9) | exact e3 (((Below.refl _ _).drew.trans hb9).trans (hb10.mono hb9.size))) (first | (go_at_call 10; refine (HT.out _ b4.drew).mono ?_; rintro e w10 ⟨⟨a9, A9, k9, B9, l9⟩, rfl, ha9, ho9, hb9⟩; simp only at ha9; subst ha9) | (go_at_call 12; refine (eqAid_c z.a A5 A9 B5 B9 k5 k9 l5 l9 _ (s8.next ((Below.refl _ _).drew.trans hb9)) (ho9.ok bd)).mono ?_; rintro e w11 ⟨rfl, hb10⟩))
          have b9 := ((Below.refl w9.heap.size w9).drew.trans hb9).trans (hb10.mono hb9.size)
          have b10 := hb1.trans ((b4.trans (b9.mono b4.size)).mono hb1.size)
          go_wp2_with fail
          go_ret
          exact ⟨rfl, b10⟩
end Go.Proofs.YtpgcgmbjlecnpaaGreatDoor
