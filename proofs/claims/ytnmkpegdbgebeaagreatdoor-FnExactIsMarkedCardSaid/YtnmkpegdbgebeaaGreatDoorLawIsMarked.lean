/- The walk of the law FnExactIsMarked. -/
import Derived.Test.YtnmkpegdbgebeaaGreatDoorIsmS
import Derived.Test.YtnmkpegdbgebeaaGreatDoorIsmI
namespace Go.Proofs.YtnmkpegdbgebeaaGreatDoor
open Go.RowKit
set_option maxRecDepth 100000 in
set_option maxHeartbeats 4000000 in
theorem lawIsMarked_c (d : Dang) (A : Option Addr) (n c : Nat) (zs : List AidG) (y : Int) (w : World) (h : Sl w w.heap.size 16 A n (zs.flatMap AidG.cells) ∧ ∀ z ∈ zs, AidRd w z) (hm : n ≤ maxLen) (ht : Tab w) (hn : d.nm.size ≤ maxLen) :
    Calls Tryz.prog 6 #[danV d, .slice A n c, .int .i64 y] w fun e w' => e = .returned (.bool true) ∧ Below w.heap.size w w' := by
  have hb0 : Below w.heap.size w (w.alloc (danO d 56)) := by (repeat (first | (with_reducible assumption) | (with_reducible exact Below.refl _ _) | exact Nat.le_refl _ | exact Below.size (by with_reducible assumption) | (with_reducible refine Below.drew ?_) | (with_reducible refine below_drewN ?_ _) | (with_reducible refine Below.alloc ?_ ?_ _) | (with_reducible refine Below.setCell ?_ ?_ _) | (with_reducible refine le_alloc ?_ _) | (with_reducible refine le_set ?_ _ _) | (with_reducible refine le_drew ?_) | (with_reducible refine le_drewN ?_ _) | omega | (dsimp only; omega)))
  have p1 := DanP.box w d 56
  obtain ⟨w0, hw⟩ : ∃ w0, w.alloc (danO d 56) = w0 := ⟨_, rfl⟩
  rw [hw] at p1 hb0
  have hs0 := h.1.next hb0
  have hr0 : ∀ z ∈ zs, AidRd w0 z := fun z hz => (h.2 z hz).next hb0
  have ht0 := ht.next hb0
  clear h ht
  obtain ⟨d0, d1, d2, d3, _⟩ := id p1
  have HR0 := Lib.hid hr0; clear hr0
  go_enter Tryz.func6, Tryz.ntmps6
  go_wp2_with fail
  try rw [hw]
  clear hw
  refine (szDanger_c d _ _ hn (by omega) (by omega)).mono ?_
  rintro e w1 ⟨r, rfl, hr, hb1⟩
  have Hr := Lib.hid hr; clear hr
  clear d0 d1 d2 d3
  go_wp2_with fail
  · go_ret
    exact ⟨rfl, hb0.trans (hb1.mono hb0.size)⟩
  have hrb : 0 ≤ r ∧ r ≤ 1048576 := by
    rcases Hr.out with h3 | ⟨h3, h4, _⟩
    · omega
    · omega
  obtain ⟨hra, hrc⟩ := hrb
  clear Hr
  refine (szAidS_c A n c zs _ _ (hs0.next hb1) hm (fun z hz => (HR0.out z hz).next hb1) hra hrc).mono ?_
  rintro e w2 ⟨r2, rfl, hr, hb2⟩
  replace hb2 := hb1.trans (hb2.mono hb1.size)
  clear hb1
  obtain ⟨d0, d1, d2, d3, _⟩ := p1.next hb2
  have Hr := Lib.hid hr; clear hr
  go_wp2_with fail
  · go_ret
    exact ⟨rfl, hb0.trans (hb2.mono hb0.size)⟩
  have hbd : (∀ z ∈ zs, AidBd z.a) ∧ n ≤ 1048576 := by
    rcases Hr.out with h3 | ⟨h3, h4, h5⟩
    · omega
    · exact ⟨h5, by omega⟩
  obtain ⟨bd, hnn⟩ := hbd
  clear Hr hra hrc
  have s0 : AidSl w0 A n zs := ⟨hs0, fun z hz => (HR0.out z hz).ok (bd z hz)⟩
  obtain ⟨M, hM⟩ : ∃ M, isMkB d (zs.map AidG.a) y = M := ⟨_, rfl⟩
  have hT : ∀ w', Below w0.heap.size w0 w' → Calls Tryz.prog 9 #[.slice A n c] w' fun e w'' => ∃ A' c' zs', e = .returned (.slice A' n c') ∧ Hid (zs'.map AidG.a = zs.map AidG.a) ∧ AidSl w'' A' n zs' ∧ Below w'.heap.size w' w'' := fun w' hb => by
    refine (toAidS_c A n c zs w' (s0.next hb) hnn).mono ?_
    rintro e w'' ⟨v', zs', he, hx, ho, hb'⟩
    obtain ⟨A', c', rfl⟩ := own_slice ho.own
    exact ⟨A', c', zs', he, Lib.hid hx, ho.sl (bd_of hx bd), hb'⟩
  have hS : ∀ w' A' c' zs', AidSl w' A' n zs' → zs'.map AidG.a = zs.map AidG.a → Calls Tryz.prog 24 #[danV d, .slice A' n c', .int .i64 y] w' fun e w'' => e = .returned (.bool M) ∧ Below w'.heap.size w' w'' := fun w' A' c' zs' hs hx => by
    have := specIsMarked_c d A' n c' zs' y w' hs hnn hn
    rwa [hx, hM] at this
  have hI : ∀ w' A' c' zs', AidSl w' A' n zs' → zs'.map AidG.a = zs.map AidG.a → Below w0.heap.size w0 w' → Calls Tryz.prog 26 #[danV d, .slice A' n c', .int .i64 y] w' fun e w'' => e = .returned (.bool M) ∧ Below w'.heap.size w' w'' := fun w' A' c' zs' hs hx hb => by
    have := implIsMarked_c d A' n c' zs' y w' hs hnn (ht0.next hb) hn
    rwa [hx, hM] at this
  clear hM s0 ht0 bd hs0 HR0
  have HT := Lib.hid hT; clear hT
  have HS := Lib.hid hS; clear hS
  have HI := Lib.hid hI; clear hI
  refine (toDanger_c d _).mono ?_
  rintro e w3 ⟨rfl, hb3⟩
  replace hb3 := hb2.trans (hb3.mono hb2.size)
  clear hb2 d0 d1 d2 d3
  go_wp2_with fail
  refine (HT.out _ hb3).mono ?_
  rintro e w4 ⟨A4, c4, zs4, rfl, E4, s4, hb4⟩
  replace hb4 := hb3.trans (hb4.mono hb3.size)
  clear hb3
  go_wp2_with fail
  refine (HS.out _ A4 c4 zs4 s4 E4.out).mono ?_
  rintro e w5 ⟨rfl, hb5⟩
  replace hb5 := hb4.trans (hb5.mono hb4.size)
  clear hb4 s4 E4
  go_wp2_with fail
  refine (HT.out _ hb5).mono ?_
  rintro e w6 ⟨A6, c6, zs6, rfl, E6, s6, hb6⟩
  replace hb6 := hb5.trans (hb6.mono hb5.size)
  clear hb5
  obtain ⟨d0, d1, d2, d3, _⟩ := p1.next hb6
  go_wp2_with fail
  refine (toDanger_c d _).mono ?_
  rintro e w7 ⟨rfl, hb7⟩
  replace s6 := s6.next hb7
  replace hb7 := hb6.trans (hb7.mono hb6.size)
  clear hb6 d0 d1 d2 d3
  go_wp2_with fail
  refine (HI.out _ A6 c6 zs6 s6 E6.out hb7).mono ?_
  rintro e w8 ⟨rfl, hb8⟩
  replace s6 := s6.next hb8
  replace hb8 := hb7.trans (hb8.mono hb7.size)
  clear hb7
  go_wp2_with fail
  refine (HT.out _ hb8).mono ?_
  rintro e w9 ⟨A9, c9, zs9, rfl, E9, s9, hb9⟩
  replace s6 := s6.next hb9
  replace hb9 := hb8.trans (hb9.mono hb8.size)
  clear hb8
  go_wp2_with fail
  refine (eqAidS_c A6 A9 n c6 c9 zs6 zs9 _ s6 s9 (E6.out.trans E9.out.symm) hnn).mono ?_
  rintro e w10 ⟨rfl, hb10⟩
  replace hb10 := hb9.trans (hb10.mono hb9.size)
  go_wp2_with fail
  go_ret
  exact ⟨rfl, hb0.trans (hb10.mono hb0.size)⟩
end Go.Proofs.YtnmkpegdbgebeaaGreatDoor
