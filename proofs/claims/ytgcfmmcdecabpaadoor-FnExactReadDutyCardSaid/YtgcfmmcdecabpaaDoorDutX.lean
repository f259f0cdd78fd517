/- The text of a duty: DutyText, both sides. -/
import Derived.Test.YtgcfmmcdecabpaaDoorDutT
namespace Go.Proofs.YtgcfmmcdecabpaaDoor
open Go.RowKit
set_option maxRecDepth 100000 in
set_option maxHeartbeats 1000000 in
theorem implDutyText_c (d : Duty) (w : World) (hn : d.keeper.size ≤ maxLen) (ht : Tab10 w) :
    Calls Tryd.prog 10 #[d.val] w fun e w' => e = .returned (.string (dutyX d)) ∧ Below w.heap.size w w' := by
  have hb0 : Below w.heap.size w (w.alloc (dutyO d 23)) := by (repeat (first | (with_reducible assumption) | (with_reducible exact Below.refl _ _) | exact Nat.le_refl _ | exact Below.size (by with_reducible assumption) | (with_reducible refine Below.drew ?_) | (with_reducible refine below_drewN ?_ _) | (with_reducible refine Below.alloc ?_ ?_ _) | (with_reducible refine Below.setCell ?_ ?_ _) | (with_reducible refine le_alloc ?_ _) | (with_reducible refine le_set ?_ _ _) | (with_reducible refine le_drew ?_) | (with_reducible refine le_drewN ?_ _) | omega | (dsimp only; omega)))
  have p1 := DutyP.box w d 23
  obtain ⟨w0, hw⟩ : ∃ w0, w.alloc (dutyO d 23) = w0 := ⟨_, rfl⟩
  rw [hw] at hb0 p1
  have h1 := isDuty_c d w0 hn
  obtain ⟨c0, c1, c2, _⟩ := id p1
  rw [dutyX]
  cases hB : dutyB d
  · rw [hB] at h1
    have H1 := Lib.hid h1; clear h1
    go_enter Tryd.func10, Tryd.ntmps10
    go_wp2_with fail
    try rw [hw]
    clear hw
    refine H1.out.mono ?_
    rintro e w1 ⟨rfl, hb1⟩
    go_wp2_with fail
    go_ret
    exact ⟨rfl, hb0.trans (hb1.mono hb0.size)⟩
  · obtain ⟨hk0, hf0, hf1, hu0, hu1⟩ := dutyB_bd hB
    have hv : dutyT d = d.keeper ++ ⟨#[32]⟩ ++ decB d.fr ++ ⟨#[32]⟩ ++ decB d.un := rfl
    rw [if_pos rfl, hv]
    have hTt := ht.next hb0
    rw [hB] at h1
    have Hv := Lib.hid hv; clear hv
    have H1 := Lib.hid h1; clear h1
    have HTt := Lib.hid hTt; clear hTt
    go_enter Tryd.func10, Tryd.ntmps10
    go_wp2_with fail
    try rw [hw]
    clear hw ht
    refine H1.out.mono ?_
    rintro e w1 ⟨rfl, hb1⟩
    have hT1 := HTt.out.next hb1
    have hD : ∀ (n : Int) (w2 : World), 0 ≤ n → n ≤ 143999999 → Below w1.heap.size w1 w2 → Calls Tryd.prog 17 #[.int .i64 n] w2 fun e w' => e = .returned (.string (decB n)) ∧ Below w2.heap.size w2 w' := fun n w2 a c hbb => decimal_c n w2 (by omega) (by omega) (hT1.next hbb)
    have HD := Lib.hid hD; clear hD
    have p2 := p1.next hb1
    clear c0 c1 c2 hT1 HTt H1
    obtain ⟨c0, c1, c2, hz⟩ := id p2
    replace hb0 := hb0.trans (hb1.mono hb0.size)
    clear hb1
    have l1 := decB_len d.fr (by omega) (by omega)
    have l2 := decB_len d.un (by omega) (by omega)
    have q1 : ¬ 9223372036854775807 < d.keeper.size + 1 := by omega
    have q2 : ¬ 9223372036854775807 < d.keeper.size + 1 + (decB d.fr).size := by omega
    have q3 : ¬ 9223372036854775807 < d.keeper.size + 1 + (decB d.fr).size + 1 := by omega
    have q4 : ¬ 9223372036854775807 < d.keeper.size + 1 + (decB d.fr).size + 1 + (decB d.un).size := by omega
    go_wp2_with fail
    have e1 : ∀ {w' : World}, Below (w1).heap.size w1 w' → (Below (w1).heap.size w1 w' ∧ (∀ x, w'.cell? ⟨w.heap.size, x, none⟩ = (w1).cell? ⟨w.heap.size, x, none⟩)) := fun hbb => ⟨hbb, keepC hbb _ hz⟩
    go_region_held3 (fun w' => Below (w1).heap.size w1 w' ∧ (∀ x, w'.cell? ⟨w.heap.size, x, none⟩ = (w1).cell? ⟨w.heap.size, x, none⟩)) (first | exact e1 (Below.refl _ _).drew | exact e1 ((Below.refl _ _).drew.trans hb2) | exact e1 (((Below.refl _ _).drew.trans hb2).trans (hb3.mono hb2.size))) (first | (go_at_call 17; have hb9 := hb2.size; refine (HD.out _ _ (by omega) (by omega) ((Below.refl _ _).drew.trans hb2)).mono ?_; clear hb9; rintro e w4 ⟨rfl, hb3⟩) | (go_at_call 17; refine (HD.out _ _ (by omega) (by omega) (Below.refl _ _).drew).mono ?_; rintro e w3 ⟨rfl, hb2⟩))
    go_wp2_with fail
    go_ret
    exact ⟨rfl, hb0.trans ((((Below.refl _ _).drew.trans hb2).trans (hb3.mono hb2.size)).mono hb0.size)⟩
end Go.Proofs.YtgcfmmcdecabpaaDoor
