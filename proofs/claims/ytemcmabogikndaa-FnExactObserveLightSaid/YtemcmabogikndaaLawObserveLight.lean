/- The walk of the law FnExactObserveLight. -/
import Derived.Test.YtemcmabogikndaaPhLaw
import Derived.Test.YtemcmabogikndaaChObs2
namespace Go.Proofs.Ytemcmabogikndaa
open Go.RowKit
set_option maxRecDepth 100000 in
set_option maxHeartbeats 2000000 in
theorem lawObserveLight_c (x : Ch) (A : Option Addr) (n c : Nat) (co : ByteArray) (start : Int) (count : Int) (w : World) (h : Sl w w.heap.size 1 A n (x.gs.flatMap intC)) (hm : n ≤ maxLen) (hl : x.l.size ≤ maxLen) (hc : x.cs.size ≤ maxLen) (hco : co.size ≤ maxLen) :
    Calls Try.prog 8 #[chV x.k A n c x.l x.cs x.p, .string co, .int .i64 start, .int .i64 count] w fun e w' => e = .returned (.bool true) ∧ Below w.heap.size w w' := by
  have hb0 : Below w.heap.size w (w.alloc (.cells #[.int .i64 x.k, .slice A n c, .string x.l, .string x.cs, .int .i64 x.p] 24)) := by (repeat (first | (with_reducible assumption) | (with_reducible exact Below.refl _ _) | exact Nat.le_refl _ | exact Below.size (by with_reducible assumption) | (with_reducible refine Below.drew ?_) | (with_reducible refine below_drewN ?_ _) | (with_reducible refine Below.alloc ?_ ?_ _) | (with_reducible refine Below.setCell ?_ ?_ _) | (with_reducible refine le_alloc ?_ _) | (with_reducible refine le_set ?_ _ _) | (with_reducible refine le_drew ?_) | (with_reducible refine le_drewN ?_ _) | omega | (dsimp only; omega)))
  have hz0 : w.heap.size < (w.alloc (.cells #[.int .i64 x.k, .slice A n c, .string x.l, .string x.cs, .int .i64 x.p] 24)).heap.size := by simp
  obtain ⟨a0, a1, a2, a3, a4⟩ := ch_box (A := A) (n := n) (c := c) w x 24
  unfold maxLen at hco
  by_cases hbig : 1048576 < co.size
  · have hbig' : (1048576 : Int) < (co.size : Int) := by omega
    go_enter Try.func8, Try.ntmps8
    go_wp2_with fail
    go_ret
    exact ⟨rfl, hb0⟩
  have hbig' : ¬ (1048576 : Int) < (co.size : Int) := by omega
  have hcs : co.size ≤ maxLen := by unfold maxLen; omega
  have hRl : (obsR x co start count).1.length ≤ 101 := ObserveLight_len x co start count
  generalize hRR : obsR x co start count = RR at hRl
  obtain ⟨ds, code⟩ := RR
  have HRR := Lib.hid hRR; clear hRR
  generalize hdl : ds.length = m at hRl
  have Hdl := Lib.hid hdl; clear hdl
  have hm60 : m ≤ 101 := hRl
  have hmm : m ≤ maxLen := by unfold maxLen; omega
  have Hmm := Lib.hid hmm; clear hmm
  clear hRl
  have Hcs := Lib.hid hcs; clear hcs
  go_enter Try.func8, Try.ntmps8
  go_wp2_with fail
  generalize (w.alloc (.cells #[.int .i64 x.k, .slice A n c, .string x.l, .string x.cs, .int .i64 x.p] 24)) = w0 at *
  have h00 := h.next hb0
  refine (szCharacter_c x.k A n c x.l x.cs x.p _ _ hm hl hc (by omega) (by omega)).mono ?_
  rintro e w1 ⟨r, rfl, hr, hb1⟩
  have q1 := keepC hb1 w.heap.size hz0
  go_wp2_with fail
  · go_ret
    exact ⟨rfl, hb0.trans (hb1.mono hb0.size)⟩
  have h0 : (n : Int) ≤ 1048576 ∧ (x.l.size : Int) ≤ 1048576 ∧ (x.cs.size : Int) ≤ 1048576 := by omega
  obtain ⟨h1, h2, h3⟩ := h0
  clear hr
  refine (toCharacter_c x.k A n c x.l x.cs x.p x.gs _ (h00.next hb1) (by omega)).mono ?_
  rintro e w2 ⟨A2, c2, rfl, ho2, hb2⟩
  have H2 := hb1.trans (hb2.mono hb1.size)
  have q2 := keepC H2 w.heap.size hz0
  go_wp2_with fail
  refine (specObserve_c A2 n c2 x _ (Sl.of_own ho2) (by omega) (by omega) (by omega) co start count).mono ?_
  rintro e w3 ⟨v3, rfl, hoW, hb3⟩
  rw [HRR.out] at hoW
  rw [HRR.out]
  simp only [Hdl.out] at hoW
  obtain ⟨AW, cW, rfl⟩ := own_slice hoW
  have hWlt : ∀ k, (Value.slice AW m cW).ownBlock = some k → k < w3.heap.size := fun k hk => (hoW.lt k hk).2
  have H3 := H2.trans (hb3.mono H2.size)
  have q3 := keepC H3 w.heap.size hz0
  clear ho2 hb2 hb1 H2 q1 q2
  go_wp2_with fail
  refine (toCharacter_c x.k A n c x.l x.cs x.p x.gs _ (h00.next H3) (by omega)).mono ?_
  rintro e w4 ⟨A4, c4', rfl, hoX, hb4⟩
  replace hoW := own_next hoW hb4
  have H4 := H3.trans (hb4.mono H3.size)
  have hXb : w0.heap.size ≤ w3.heap.size := H3.size
  have hz34 := hb4.size
  have q4 := keepC H4 w.heap.size hz0
  clear hb3 q3
  go_wp2_with fail
  have hbx : Below w4.heap.size w4 (w4.alloc (.cells #[.int .i64 x.k, .slice A4 n c4', .string x.l, .string x.cs, .int .i64 x.p] 28)) := by (repeat (first | (with_reducible assumption) | (with_reducible exact Below.refl _ _) | exact Nat.le_refl _ | exact Below.size (by with_reducible assumption) | (with_reducible refine Below.drew ?_) | (with_reducible refine below_drewN ?_ _) | (with_reducible refine Below.alloc ?_ ?_ _) | (with_reducible refine Below.setCell ?_ ?_ _) | (with_reducible refine le_alloc ?_ _) | (with_reducible refine le_set ?_ _ _) | (with_reducible refine le_drew ?_) | (with_reducible refine le_drewN ?_ _) | omega | (dsimp only; omega)))
  obtain ⟨d0, d1, d2, d3, d4, hbd, s6, _, _, _⟩ := chp_box (c := c4') 28 (Sl.of_own hoX) (by omega) (by omega) (by omega)
  simp only [Nat.zero_add] at d0 d1 d2 d3 d4
  replace hoW := own_next hoW hbx
  replace hoX := own_next hoX hbx
  have H6 := H4.trans (hbx.mono H4.size)
  have q6 := keepC H6 w.heap.size hz0
  have hz46 := hbx.size
  generalize w4.alloc (.cells #[.int .i64 x.k, .slice A4 n c4', .string x.l, .string x.cs, .int .i64 x.p] 28) = w6 at *
  clear q4
  refine (implObserve_c A4 n c4' x _ s6 (by omega) (by omega) (by omega) co start count Hcs.out).mono ?_
  rintro e w7 ⟨v7, rfl, hoG, hb7⟩
  rw [HRR.out] at hoG
  rw [HRR.out]
  simp only [Hdl.out] at hoG
  obtain ⟨AG, cG, rfl⟩ := own_slice hoG
  replace hoW := own_next hoW hb7
  replace hoX := own_next hoX hb7
  have K7 := hb7
  have H7 := H6.trans (hb7.mono H6.size)
  have q7 := keepC H7 w.heap.size hz0
  have v7 := keepC K7 w4.heap.size hbd
  clear q6
  go_wp2_with fail
  refine (eqPhaseS_c AG AW m cG cW ds _ (Sl.of_own hoG) (Sl.of_own hoW) Hmm.out).mono ?_
  rintro e w8 ⟨rfl, hb8⟩
  replace hoW := own_next hoW hb8
  replace hoX := own_next hoX hb8
  replace hoG := own_next hoG hb8
  have K8 := K7.trans (hb8.mono K7.size)
  have H8 := H7.trans (hb8.mono H7.size)
  have q8 := keepC H8 w.heap.size hz0
  have v8 := keepC K8 w4.heap.size hbd
  clear q7 v7
  go_wp2_with fail
  have z8 : w.heap.size < w8.heap.size := Nat.lt_of_lt_of_le hz0 H8.size
  have y8 : w4.heap.size < w8.heap.size := Nat.lt_of_lt_of_le hbd K8.size
  have e8 : ∀ {w' : World}, Below w8.heap.size w8 w' → (Below w8.heap.size w8 w' ∧ (∀ x, w'.cell? ⟨w.heap.size, x, none⟩ = w8.cell? ⟨w.heap.size, x, none⟩) ∧ (∀ x, w'.cell? ⟨w4.heap.size, x, none⟩ = w8.cell? ⟨w4.heap.size, x, none⟩)) := fun hb => ⟨hb, keepC hb _ z8, keepC hb _ y8⟩
  refine wp_region_held_drew (S := fun w' => Below w8.heap.size w8 w' ∧ (∀ x, w'.cell? ⟨w.heap.size, x, none⟩ = w8.cell? ⟨w.heap.size, x, none⟩) ∧ (∀ x, w'.cell? ⟨w4.heap.size, x, none⟩ = w8.cell? ⟨w4.heap.size, x, none⟩)) (by kernel_rfl) (e8 (Below.refl _ _).drew) (fun hHeld => ?_)
  (first
    | (refine wpAnyH_take (i := 0) (v := ?_) rfl (by kernel_rfl) (by kernel_rfl) (by kernel_rfl) (fun _ _ _ h => h) (Or.inl ⟨by rfl, ?_⟩) (by assumption) ?_
       rotate_left
       focus (intro wq hSq; (try dsimp only at hSq); go_simp; (try (with_reducible rfl)); done))
    | (refine wpAnyH_take (i := 0) (v := undef) rfl (by kernel_rfl) (by kernel_rfl) (by kernel_rfl) (fun _ _ _ h => h) (Or.inr ⟨by rfl, rfl⟩) (by assumption) ?_)
    | fail "take 0")
  try simp only [Act.put, List.setIfInBounds_toArray, List.set_cons_zero, List.set_cons_succ, List.getElem_toArray, List.getElem_cons_zero]
  (first
    | (refine wpAnyH_take (i := 1) (v := ?_) rfl (by kernel_rfl) (by kernel_rfl) (by kernel_rfl) (fun _ _ _ h => h) (Or.inl ⟨by rfl, ?_⟩) (by assumption) ?_
       rotate_left
       focus (intro wq hSq; (try dsimp only at hSq); go_simp; (try (with_reducible rfl)); done))
    | (refine wpAnyH_take (i := 1) (v := undef) rfl (by kernel_rfl) (by kernel_rfl) (by kernel_rfl) (fun _ _ _ h => h) (Or.inr ⟨by rfl, rfl⟩) (by assumption) ?_)
    | fail "take 1")
  try simp only [Act.put, List.setIfInBounds_toArray, List.set_cons_zero, List.set_cons_succ, List.getElem_toArray, List.getElem_cons_zero, List.getElem_cons_succ]
  refine wpAnyH_ready (rs := [2]) (by kernel_rfl) (by simp) ?_
  refine AllReadyH.cons (o := _) rfl (fun K hK => ?_) AllReadyH.nil
  go_simp
  refine (toCharacter_c x.k A n c x.l x.cs x.p x.gs _ ((h00.next H8).next (Below.refl _ _).drew) (by omega)).mono ?_; rintro e w9 ⟨A9, c9, rfl, ho9, hb9⟩; have hb89 := (Below.refl w8.heap.size w8).drew.trans hb9
  refine hK.out _ _ ?_ (fun hHeld => ?_)
  · exact e8 hb89
  clear hK K
  try simp only [Act.put, List.setIfInBounds_toArray, List.set_cons_zero, List.set_cons_succ, List.getElem_toArray, List.getElem_cons_zero, List.getElem_cons_succ]
  refine wpAnyH_ready (rs := [3]) (by kernel_rfl) (by simp) ?_
  refine AllReadyH.cons (o := _) rfl (fun K hK => ?_) AllReadyH.nil
  go_simp
  refine (eqCharacter_c x.k A4 A9 n c4' c9 x.l x.cs x.p x.gs _ (Sl.of_own (own_next hoX hb89)) (Sl.of_own ho9) (by omega)).mono ?_; rintro e w10 ⟨rfl, hb10⟩; have hb810 := hb89.trans (hb10.mono hb89.size)
  refine hK.out _ _ ?_ (fun hHeld => ?_)
  · exact e8 hb810
  clear hK K
  try simp only [Act.put, List.setIfInBounds_toArray, List.set_cons_zero, List.set_cons_succ, List.getElem_toArray, List.getElem_cons_zero, List.getElem_cons_succ]
  (first
    | (refine wpAnyH_take (i := 4) (v := ?_) rfl (by kernel_rfl) (by kernel_rfl) (by kernel_rfl) (fun _ _ _ h => h) (Or.inl ⟨by rfl, ?_⟩) (by assumption) ?_
       rotate_left
       focus (intro wq hSq; (try dsimp only at hSq); go_simp; (try (with_reducible rfl)); done))
    | (refine wpAnyH_take (i := 4) (v := undef) rfl (by kernel_rfl) (by kernel_rfl) (by kernel_rfl) (fun _ _ _ h => h) (Or.inr ⟨by rfl, rfl⟩) (by assumption) ?_)
    | fail "take 4")
  try simp only [Act.put, List.setIfInBounds_toArray, List.set_cons_zero, List.set_cons_succ, List.getElem_toArray, List.getElem_cons_zero, List.getElem_cons_succ]
  refine wpAnyH_done (by kernel_rfl) ?_ _
  replace hoW := own_next hoW hb810
  replace hoX := own_next hoX hb810
  replace hoG := own_next hoG hb810
  have K10 := K8.trans (hb810.mono K8.size)
  have H10 := H8.trans (hb810.mono H8.size)
  have q10 := keepC H10 w.heap.size hz0
  have v10 := keepC K10 w4.heap.size hbd
  clear q8 v8 e8 hHeld ho9 hb9 hb89 hb10
  go_wp2_with fail
  refine (markCharacter_c x.k A4 n c4' x.l x.cs x.p 1 _ _ _ hoX (by omega) (by omega)).mono ?_
  rintro e w11 ⟨rfl, hg11⟩
  replace hoW := own_grown hoW hg11 (own_ne hoW hoX (by decide))
  replace hoG := own_grown hoG hg11 (own_ne hoG hoX (by decide))
  have H11 : Below w0.heap.size w0 w11 := H10.grown hg11 H10.size fun k hk => by have := (hoX.lt k hk).1; omega
  have q11 := keepC H11 w.heap.size hz0
  clear hoX hg11 q10 v10 hb810 H8 H7
  have hneg : ¬ (((1 + n : Nat) : Int) < 0) := by omega
  go_wp2_with fail
  refine (eqPhaseS_c AG AW m cG cW ds _ (Sl.of_own hoG) (Sl.of_own hoW) Hmm.out).mono ?_
  rintro e w12 ⟨rfl, hb12⟩
  replace hoW := own_next hoW hb12
  replace hoG := own_next hoG hb12
  have H12 := H11.trans (hb12.mono H11.size)
  clear q11
  go_wp2_with fail
  refine (markPhaseS_c AG m cG 1 _ _ _ hoG (by omega) (by omega) (by omega)).mono ?_
  rintro e w13 ⟨rfl, hoG2, hg13⟩
  replace hoW := own_grown hoW hg13 (own_older hoW (fun k hk => Nat.lt_of_lt_of_le (hWlt k hk) (Nat.le_trans hz34 hz46)) hoG)
  have H13 : Below w0.heap.size w0 w13 := H12.grown hg13 H12.size fun k hk => by have := (hoG.lt k hk).1; have := H6.size; omega
  clear hoG hg13
  go_wp2_with fail
  refine (heldPhaseS_c AG m cG 1 _ (Sl.of_own hoG2) (by omega) (by omega) (by omega)).mono ?_
  rintro e w14 ⟨rfl, hb14⟩
  replace hoW := own_next hoW hb14
  replace hoG2 := own_next hoG2 hb14
  have H14 := H13.trans (hb14.mono H13.size)
  have q14 := keepC H14 w.heap.size hz0
  have hneg2 : ¬ (((1 + 2 * m : Nat) : Int) < 0) := by omega
  go_wp2_with fail
  refine (toCharacter_c x.k A n c x.l x.cs x.p x.gs _ (h00.next H14) (by omega)).mono ?_
  rintro e w15 ⟨A15, c15, rfl, ho15, hb15⟩
  replace hoW := own_next hoW hb15
  replace hoG2 := own_next hoG2 hb15
  have H15 := H14.trans (hb15.mono H14.size)
  clear q14
  go_wp2_with fail
  refine (implObserve_c A15 n c15 x _ (Sl.of_own ho15) (by omega) (by omega) (by omega) co start count Hcs.out).mono ?_
  rintro e w16 ⟨v16, rfl, hoH, hb16⟩
  rw [HRR.out] at hoH
  rw [HRR.out]
  simp only [Hdl.out] at hoH
  obtain ⟨AH, cH, rfl⟩ := own_slice hoH
  replace hoW := own_next hoW hb16
  replace hoG2 := own_next hoG2 hb16
  have H16 := H15.trans (hb16.mono H15.size)
  clear ho15
  go_wp2_with fail
  refine (eqPhaseS_c AH AW m cH cW ds _ (Sl.of_own hoH) (Sl.of_own hoW) Hmm.out).mono ?_
  rintro e w17 ⟨rfl, hb17⟩
  replace hoG2 := own_next hoG2 hb17
  have H17 := H16.trans (hb17.mono H16.size)
  go_wp2_with fail
  refine (heldPhaseS_c AG m cG 1 _ (Sl.of_own hoG2) (by omega) (by omega) (by omega)).mono ?_
  rintro e w18 ⟨rfl, hb18⟩
  have H18 := H17.trans (hb18.mono H17.size)
  go_wp2_with fail
  go_ret
  exact ⟨rfl, hb0.trans (H18.mono hb0.size)⟩
end Go.Proofs.Ytemcmabogikndaa
