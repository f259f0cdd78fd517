/- The codes of voyages; VoyageEnd: the program. -/
import Derived.Test.YtgkdjohiclhcoaaVoyN
namespace Go.Proofs.Ytgkdjohiclhcoaa
open Go.RowKit
set_option maxRecDepth 100000 in
set_option maxHeartbeats 2000000 in
theorem voyageCode_c (s : Sh) (x y t : Int) (AZ : Option Addr) (N cZ : Nat) (zs : List Wk) (A : Option Addr) (n c : Nat) (xs : List Int) (w : World) (hs : s.name.size ≤ maxLen) (hz : Sl w w.heap.size 7 AZ N (zs.flatMap Wk.cells)) (hN : N ≤ 1048576) (hns : ∀ z ∈ zs, z.name.size ≤ maxLen)
    (h : Sl w w.heap.size 1 A n (xs.flatMap intC)) (hm : n ≤ 1048576) (hnc : n ≤ c) :
    Calls Try.prog 54 #[s.val, ptV x y, .slice AZ N cZ, .slice A n c, .int .i64 t] w fun e w' => e = .returned (.int .i64 (askK s zs ⟨t, x, y⟩ xs)) ∧ Below w.heap.size w w' := by
  have hln := hz.len Wk.cells 7 Wk.cells_len (by omega)
  obtain ⟨S, hS0⟩ : ∃ S, shB s = S := ⟨_, rfl⟩
  obtain ⟨P, hP0⟩ : ∃ P, ptB x y = P := ⟨_, rfl⟩
  obtain ⟨W, hW0⟩ : ∃ W, worksB zs = W := ⟨_, rfl⟩
  obtain ⟨T, hT0⟩ : ∃ T, inB t 0 4320 = T := ⟨_, rfl⟩
  obtain ⟨O, hO0⟩ : ∃ O, ordB N xs = O := ⟨_, rfl⟩
  have hv : askK s zs ⟨t, x, y⟩ xs = bif !(S && (P && W)) then 1 else bif !T then 2 else bif !O then 7 else 0 := by rw [askK, hln, hS0, hP0, hW0, hT0, hO0]
  rw [hv]
  have hS : ∀ w1, Calls Try.prog 74 #[s.val] w1 fun e w' => e = .returned (.bool S) ∧ Below w1.heap.size w1 w' := fun w1 => hS0 ▸ validShip_c s w1 hs
  have hP : ∀ w1, Calls Try.prog 75 #[ptV x y] w1 fun e w' => e = .returned (.bool P) ∧ Below w1.heap.size w1 w' := fun w1 => hP0 ▸ validPoint_c x y w1
  have hW : ∀ w1, Below w.heap.size w w1 → Calls Try.prog 76 #[.slice AZ N cZ] w1 fun e w' => e = .returned (.bool W) ∧ Below w1.heap.size w1 w' := fun w1 hb => hW0 ▸ validWorks_c AZ N cZ zs w1 (hz.next hb) hN hns
  have hT : ∀ w1, Calls Try.prog 77 #[.int .i64 t] w1 fun e w' => e = .returned (.bool T) ∧ w1 = w' := fun w1 => hT0 ▸ isVoyageTime_c t w1
  have hO : ∀ w1, Below w.heap.size w w1 → Calls Try.prog 78 #[.slice AZ N cZ, .slice A n c] w1 fun e w' => e = .returned (.bool O) ∧ w1 = w' := fun w1 hb => hO0 ▸ isOrder_c AZ N cZ A n c xs w1 (h.next hb) hm hnc
  have hb0 : Below w.heap.size w ((w.alloc (shO s 32)).alloc (ptO x y 34)) := by (repeat (first | (with_reducible assumption) | (with_reducible exact Below.refl _ _) | exact Nat.le_refl _ | exact Below.size (by with_reducible assumption) | (with_reducible refine Below.drew ?_) | (with_reducible refine below_drewN ?_ _) | (with_reducible refine Below.alloc ?_ ?_ _) | (with_reducible refine Below.setCell ?_ ?_ _) | (with_reducible refine le_alloc ?_ _) | (with_reducible refine le_set ?_ _ _) | (with_reducible refine le_drew ?_) | (with_reducible refine le_drewN ?_ _) | omega | (dsimp only; omega)))
  have g1 := (ShP.box w s 32).next (w' := (w.alloc (shO s 32)).alloc (ptO x y 34)) (by (repeat (first | (with_reducible assumption) | (with_reducible exact Below.refl _ _) | exact Nat.le_refl _ | exact Below.size (by with_reducible assumption) | (with_reducible refine Below.drew ?_) | (with_reducible refine below_drewN ?_ _) | (with_reducible refine Below.alloc ?_ ?_ _) | (with_reducible refine Below.setCell ?_ ?_ _) | (with_reducible refine le_alloc ?_ _) | (with_reducible refine le_set ?_ _ _) | (with_reducible refine le_drew ?_) | (with_reducible refine le_drewN ?_ _) | omega | (dsimp only; omega))))
  have hsz : (w.alloc (shO s 32)).heap.size = w.heap.size + 1 := by simp
  have p1 := PtP.box (w.alloc (shO s 32)) x y
  rw [hsz] at p1
  obtain ⟨w0, hw⟩ : ∃ w0, (w.alloc (shO s 32)).alloc (ptO x y 34) = w0 := ⟨_, rfl⟩
  rw [hw] at hb0 g1 p1
  obtain ⟨c0, c1, c2, c3, hg⟩ := g1
  obtain ⟨d0, d1, hp1⟩ := p1
  clear hsz hv hS0 hP0 hW0 hT0 hO0 hz h hln
  have HS := Lib.hid hS; clear hS
  have HP := Lib.hid hP; clear hP
  have HW := Lib.hid hW; clear hW
  have HT := Lib.hid hT; clear hT
  have HO := Lib.hid hO; clear hO
  cases S
  · go_enter Try.func54, Try.ntmps54
    go_wp2_with fail
    try rw [hw]
    clear hw
    go_wp2_with (first | (go_at_call 74; refine (HS.out _).mono ?_; rintro e w1 ⟨rfl, hb1⟩; have d0 := (keepC hb1 (w.heap.size + 1) hp1 0).trans d0; have d1 := (keepC hb1 (w.heap.size + 1) hp1 1).trans d1) | (go_at_call 75; refine (HP.out _).mono ?_; rintro e w2 ⟨rfl, hb2⟩) | (go_at_call 76; refine (HW.out _ (hb0.trans ((hb1.trans (hb2.mono hb1.size)).mono hb0.size))).mono ?_; rintro e w3 ⟨rfl, hb3⟩) | (go_at_call 77; refine (HT.out _).mono ?_; rintro e w4 ⟨rfl, rfl⟩) | (go_at_call 78; refine (HO.out _ (hb0.trans ((hb1.trans ((hb2.trans (hb3.mono hb2.size)).mono hb1.size)).mono hb0.size))).mono ?_; rintro e w5 ⟨rfl, rfl⟩))
    go_ret
    exact ⟨rfl, hb0.trans (hb1.mono hb0.size)⟩
  cases P
  · go_enter Try.func54, Try.ntmps54
    go_wp2_with fail
    try rw [hw]
    clear hw
    go_wp2_with (first | (go_at_call 74; refine (HS.out _).mono ?_; rintro e w1 ⟨rfl, hb1⟩; have d0 := (keepC hb1 (w.heap.size + 1) hp1 0).trans d0; have d1 := (keepC hb1 (w.heap.size + 1) hp1 1).trans d1) | (go_at_call 75; refine (HP.out _).mono ?_; rintro e w2 ⟨rfl, hb2⟩) | (go_at_call 76; refine (HW.out _ (hb0.trans ((hb1.trans (hb2.mono hb1.size)).mono hb0.size))).mono ?_; rintro e w3 ⟨rfl, hb3⟩) | (go_at_call 77; refine (HT.out _).mono ?_; rintro e w4 ⟨rfl, rfl⟩) | (go_at_call 78; refine (HO.out _ (hb0.trans ((hb1.trans ((hb2.trans (hb3.mono hb2.size)).mono hb1.size)).mono hb0.size))).mono ?_; rintro e w5 ⟨rfl, rfl⟩))
    go_ret
    exact ⟨rfl, hb0.trans ((hb1.trans (hb2.mono hb1.size)).mono hb0.size)⟩
  cases W
  · go_enter Try.func54, Try.ntmps54
    go_wp2_with fail
    try rw [hw]
    clear hw
    go_wp2_with (first | (go_at_call 74; refine (HS.out _).mono ?_; rintro e w1 ⟨rfl, hb1⟩; have d0 := (keepC hb1 (w.heap.size + 1) hp1 0).trans d0; have d1 := (keepC hb1 (w.heap.size + 1) hp1 1).trans d1) | (go_at_call 75; refine (HP.out _).mono ?_; rintro e w2 ⟨rfl, hb2⟩) | (go_at_call 76; refine (HW.out _ (hb0.trans ((hb1.trans (hb2.mono hb1.size)).mono hb0.size))).mono ?_; rintro e w3 ⟨rfl, hb3⟩) | (go_at_call 77; refine (HT.out _).mono ?_; rintro e w4 ⟨rfl, rfl⟩) | (go_at_call 78; refine (HO.out _ (hb0.trans ((hb1.trans ((hb2.trans (hb3.mono hb2.size)).mono hb1.size)).mono hb0.size))).mono ?_; rintro e w5 ⟨rfl, rfl⟩))
    go_ret
    exact ⟨rfl, hb0.trans ((hb1.trans ((hb2.trans (hb3.mono hb2.size)).mono hb1.size)).mono hb0.size)⟩
  cases T
  · go_enter Try.func54, Try.ntmps54
    go_wp2_with fail
    try rw [hw]
    clear hw
    go_wp2_with (first | (go_at_call 74; refine (HS.out _).mono ?_; rintro e w1 ⟨rfl, hb1⟩; have d0 := (keepC hb1 (w.heap.size + 1) hp1 0).trans d0; have d1 := (keepC hb1 (w.heap.size + 1) hp1 1).trans d1) | (go_at_call 75; refine (HP.out _).mono ?_; rintro e w2 ⟨rfl, hb2⟩) | (go_at_call 76; refine (HW.out _ (hb0.trans ((hb1.trans (hb2.mono hb1.size)).mono hb0.size))).mono ?_; rintro e w3 ⟨rfl, hb3⟩) | (go_at_call 77; refine (HT.out _).mono ?_; rintro e w4 ⟨rfl, rfl⟩) | (go_at_call 78; refine (HO.out _ (hb0.trans ((hb1.trans ((hb2.trans (hb3.mono hb2.size)).mono hb1.size)).mono hb0.size))).mono ?_; rintro e w5 ⟨rfl, rfl⟩))
    go_ret
    exact ⟨rfl, hb0.trans ((hb1.trans ((hb2.trans (hb3.mono hb2.size)).mono hb1.size)).mono hb0.size)⟩
  cases O
  · go_enter Try.func54, Try.ntmps54
    go_wp2_with fail
    try rw [hw]
    clear hw
    go_wp2_with (first | (go_at_call 74; refine (HS.out _).mono ?_; rintro e w1 ⟨rfl, hb1⟩; have d0 := (keepC hb1 (w.heap.size + 1) hp1 0).trans d0; have d1 := (keepC hb1 (w.heap.size + 1) hp1 1).trans d1) | (go_at_call 75; refine (HP.out _).mono ?_; rintro e w2 ⟨rfl, hb2⟩) | (go_at_call 76; refine (HW.out _ (hb0.trans ((hb1.trans (hb2.mono hb1.size)).mono hb0.size))).mono ?_; rintro e w3 ⟨rfl, hb3⟩) | (go_at_call 77; refine (HT.out _).mono ?_; rintro e w4 ⟨rfl, rfl⟩) | (go_at_call 78; refine (HO.out _ (hb0.trans ((hb1.trans ((hb2.trans (hb3.mono hb2.size)).mono hb1.size)).mono hb0.size))).mono ?_; rintro e w5 ⟨rfl, rfl⟩))
    go_ret
    exact ⟨rfl, hb0.trans ((hb1.trans ((hb2.trans (hb3.mono hb2.size)).mono hb1.size)).mono hb0.size)⟩
  · go_enter Try.func54, Try.ntmps54
    go_wp2_with fail
    try rw [hw]
    clear hw
    go_wp2_with (first | (go_at_call 74; refine (HS.out _).mono ?_; rintro e w1 ⟨rfl, hb1⟩; have d0 := (keepC hb1 (w.heap.size + 1) hp1 0).trans d0; have d1 := (keepC hb1 (w.heap.size + 1) hp1 1).trans d1) | (go_at_call 75; refine (HP.out _).mono ?_; rintro e w2 ⟨rfl, hb2⟩) | (go_at_call 76; refine (HW.out _ (hb0.trans ((hb1.trans (hb2.mono hb1.size)).mono hb0.size))).mono ?_; rintro e w3 ⟨rfl, hb3⟩) | (go_at_call 77; refine (HT.out _).mono ?_; rintro e w4 ⟨rfl, rfl⟩) | (go_at_call 78; refine (HO.out _ (hb0.trans ((hb1.trans ((hb2.trans (hb3.mono hb2.size)).mono hb1.size)).mono hb0.size))).mono ?_; rintro e w5 ⟨rfl, rfl⟩))
    go_ret
    exact ⟨rfl, hb0.trans ((hb1.trans ((hb2.trans (hb3.mono hb2.size)).mono hb1.size)).mono hb0.size)⟩
set_option maxRecDepth 100000 in
set_option maxHeartbeats 2000000 in
theorem implVoyageEnd_c (s : Sh) (x y t : Int) (AZ : Option Addr) (N cZ : Nat) (zs : List Wk) (A : Option Addr) (n c : Nat) (xs : List Int) (w : World) (hs : s.name.size ≤ maxLen) (hz : Sl w w.heap.size 7 AZ N (zs.flatMap Wk.cells)) (hN : N ≤ 1048576) (hns : ∀ z ∈ zs, z.name.size ≤ maxLen)
    (h : Sl w w.heap.size 1 A n (xs.flatMap intC)) (hm : n ≤ 1048576) (hnc : n ≤ c) :
    Calls Try.prog 45 #[s.val, ptV x y, .slice AZ N cZ, .slice A n c, .int .i64 t] w fun e w' => e = .returned (.tuple #[.int .i64 (vendT s zs ⟨t, x, y⟩ xs), .int .i64 (vendK s zs ⟨t, x, y⟩ xs)]) ∧ Below w.heap.size w w' := by
  have hC : ∀ w1, Below w.heap.size w w1 → Calls Try.prog 54 #[s.val, ptV x y, .slice AZ N cZ, .slice A n c, .int .i64 t] w1 fun e w' => e = .returned (.int .i64 (askK s zs ⟨t, x, y⟩ xs)) ∧ Below w1.heap.size w1 w' := fun w1 hb => voyageCode_c s x y t AZ N cZ zs A n c xs w1 hs (hz.next hb) hN hns (h.next hb) hm hnc
  have hE : ∀ w1, Below w.heap.size w w1 → askK s zs ⟨t, x, y⟩ xs = 0 → Calls Try.prog 33 #[s.val, ptV x y, .slice AZ N cZ, .slice A n c, .int .i64 t] w1 fun e w' => e = .returned (.tuple #[.int .i64 (bif decide (voyK s zs ⟨t, x, y⟩ xs = 0) then endV s zs ⟨t, x, y⟩ xs else 0), .int .i64 (voyK s zs ⟨t, x, y⟩ xs)]) ∧ Below w1.heap.size w1 w' := fun w1 hb h0 => end_c s x y t AZ N cZ zs A n c xs w1 (hz.next hb) (h.next hb) hm (VOk.of_ask h0)
  have hb0 : Below w.heap.size w ((w.alloc (shO s 32)).alloc (ptO x y 34)) := by (repeat (first | (with_reducible assumption) | (with_reducible exact Below.refl _ _) | exact Nat.le_refl _ | exact Below.size (by with_reducible assumption) | (with_reducible refine Below.drew ?_) | (with_reducible refine below_drewN ?_ _) | (with_reducible refine Below.alloc ?_ ?_ _) | (with_reducible refine Below.setCell ?_ ?_ _) | (with_reducible refine le_alloc ?_ _) | (with_reducible refine le_set ?_ _ _) | (with_reducible refine le_drew ?_) | (with_reducible refine le_drewN ?_ _) | omega | (dsimp only; omega)))
  have g1 := (ShP.box w s 32).next (w' := (w.alloc (shO s 32)).alloc (ptO x y 34)) (by (repeat (first | (with_reducible assumption) | (with_reducible exact Below.refl _ _) | exact Nat.le_refl _ | exact Below.size (by with_reducible assumption) | (with_reducible refine Below.drew ?_) | (with_reducible refine below_drewN ?_ _) | (with_reducible refine Below.alloc ?_ ?_ _) | (with_reducible refine Below.setCell ?_ ?_ _) | (with_reducible refine le_alloc ?_ _) | (with_reducible refine le_set ?_ _ _) | (with_reducible refine le_drew ?_) | (with_reducible refine le_drewN ?_ _) | omega | (dsimp only; omega))))
  have hsz : (w.alloc (shO s 32)).heap.size = w.heap.size + 1 := by simp
  have p1 := PtP.box (w.alloc (shO s 32)) x y
  rw [hsz] at p1
  obtain ⟨w0, hw⟩ : ∃ w0, (w.alloc (shO s 32)).alloc (ptO x y 34) = w0 := ⟨_, rfl⟩
  rw [hw] at hb0 g1 p1
  obtain ⟨c0, c1, c2, c3, hg⟩ := g1
  obtain ⟨d0, d1, hp1⟩ := p1
  have hvT : vendT s zs ⟨t, x, y⟩ xs = bif decide (askK s zs ⟨t, x, y⟩ xs = 0) then (bif decide (voyK s zs ⟨t, x, y⟩ xs = 0) then endV s zs ⟨t, x, y⟩ xs else 0) else 0 := by
    rw [vendT, vendK]
    by_cases h0 : askK s zs ⟨t, x, y⟩ xs = 0
    · simp [h0]
    · simp [h0]
  rw [hvT, vendK]
  clear hsz hvT
  obtain ⟨K, hK⟩ : ∃ K, askK s zs ⟨t, x, y⟩ xs = K := ⟨_, rfl⟩
  obtain ⟨V, hV⟩ : ∃ V, voyK s zs ⟨t, x, y⟩ xs = V := ⟨_, rfl⟩
  obtain ⟨E, hE0⟩ : ∃ E, (bif decide (V = 0) then endV s zs ⟨t, x, y⟩ xs else 0) = E := ⟨_, rfl⟩
  rw [hK, hV, hE0] at hE
  rw [hK] at hC
  rw [hK, hV, hE0]
  clear hK hV hE0
  have HC := Lib.hid hC; clear hC
  have HE := Lib.hid hE; clear hE
  have H := Lib.hid h; clear h
  have Hz := Lib.hid hz; clear hz
  by_cases hK0 : K = 0
  · subst hK0
    have hd : decide ((0 : Int) = 0) = true := rfl
    rw [hd]
    clear hd
    simp only [cond_true]
    go_enter Try.func45, Try.ntmps45
    go_wp2_with fail
    try rw [hw]
    clear hw
    refine (HC.out _ hb0).mono ?_
    rintro e w1 ⟨rfl, hb1⟩
    have v0 := (keepC hb1 w.heap.size hg 0).trans c0
    have v1 := (keepC hb1 w.heap.size hg 1).trans c1
    have v2 := (keepC hb1 w.heap.size hg 2).trans c2
    have v3 := (keepC hb1 w.heap.size hg 3).trans c3
    have t0 := (keepC hb1 (w.heap.size + 1) hp1 0).trans d0
    have t1 := (keepC hb1 (w.heap.size + 1) hp1 1).trans d1
    replace hb1 := hb0.trans (hb1.mono hb0.size)
    clear c0 c1 c2 c3 d0 d1
    go_wp2_with fail
    refine (HE.out _ hb1 trivial).mono ?_
    rintro e w2 ⟨rfl, hb2⟩
    go_wp2_with fail
    go_ret2
    exact ⟨rfl, hb1.trans (hb2.mono hb1.size)⟩
  · have hKn : (K == 0) = false := by simpa using hK0
    have hKd : decide (K = 0) = false := by simpa using hK0
    rw [hKd]
    simp only [cond_false]
    go_enter Try.func45, Try.ntmps45
    go_wp2_with fail
    try rw [hw]
    clear hw
    refine (HC.out _ hb0).mono ?_
    rintro e w1 ⟨rfl, hb1⟩
    go_wp2_with fail
    go_ret2
    exact ⟨rfl, hb0.trans (hb1.mono hb0.size)⟩
end Go.Proofs.Ytgkdjohiclhcoaa
