/- The walk of the law FnExactErrorFrom. -/
import Derived.Test.YtgfplmfdgbklkaaPhLaw
import Derived.Test.YtgfplmfdgbklkaaChErr2
namespace Go.Proofs.Ytgfplmfdgbklkaa
open Go.RowKit
set_option maxRecDepth 100000 in
set_option maxHeartbeats 2000000 in
theorem lawErrorFrom_c (x : Ch) (A : Option Addr) (n c : Nat) (Ao : Option Addr) (no co : Nat) (o : List Ph) (start : Int) (w : World) (h : Sl w w.heap.size 1 A n (x.gs.flatMap intC)) (hm : n ≤ maxLen) (hl : x.l.size ≤ maxLen) (hc : x.cs.size ≤ maxLen)
    (ho : Sl w w.heap.size 2 Ao no (o.flatMap Ph.cells)) (hmo : no ≤ maxLen) (hso : ∀ p ∈ o, p.c.size ≤ maxLen) :
    Calls Try.prog 4 #[chV x.k A n c x.l x.cs x.p, .slice Ao no co, .int .i64 start] w fun e w' => e = .returned (.bool true) ∧ Below w.heap.size w w' := by
  have hb0 : Below w.heap.size w (w.alloc (.cells #[.int .i64 x.k, .slice A n c, .string x.l, .string x.cs, .int .i64 x.p] 24)) := by (repeat (first | (with_reducible assumption) | (with_reducible exact Below.refl _ _) | exact Nat.le_refl _ | exact Below.size (by with_reducible assumption) | (with_reducible refine Below.drew ?_) | (with_reducible refine below_drewN ?_ _) | (with_reducible refine Below.alloc ?_ ?_ _) | (with_reducible refine Below.setCell ?_ ?_ _) | (with_reducible refine le_alloc ?_ _) | (with_reducible refine le_set ?_ _ _) | (with_reducible refine le_drew ?_) | (with_reducible refine le_drewN ?_ _) | omega | (dsimp only; omega)))
  have hz0 : w.heap.size < (w.alloc (.cells #[.int .i64 x.k, .slice A n c, .string x.l, .string x.cs, .int .i64 x.p] 24)).heap.size := by simp
  obtain ⟨a0, a1, a2, a3, a4⟩ := ch_box (A := A) (n := n) (c := c) w x 24
  have Hso := Lib.hid hso; clear hso
  go_enter Try.func4, Try.ntmps4
  go_wp2_with fail
  generalize (w.alloc (.cells #[.int .i64 x.k, .slice A n c, .string x.l, .string x.cs, .int .i64 x.p] 24)) = w0 at *
  have h00 := h.next hb0
  have o00 := ho.next hb0
  refine (szCharacter_c x.k A n c x.l x.cs x.p _ _ hm hl hc (by omega) (by omega)).mono ?_
  rintro e w1 ⟨r, rfl, hr, hb1⟩
  have q1 := keepC hb1 w.heap.size hz0
  go_wp2_with fail
  · go_ret
    exact ⟨rfl, hb0.trans (hb1.mono hb0.size)⟩
  have h0 : (n : Int) ≤ 1048576 ∧ (x.l.size : Int) ≤ 1048576 ∧ (x.cs.size : Int) ≤ 1048576 ∧ 0 ≤ r ∧ r ≤ 1048576 := by omega
  obtain ⟨h1, h2, h3, hr0, hr1⟩ := h0
  clear hr
  refine (szPhaseS_c Ao no co o r _ (o00.next hb1) hmo Hso.out hr0 hr1).mono ?_
  rintro e w2 ⟨r2, rfl, hr2, hb2⟩
  have H2 := hb1.trans (hb2.mono hb1.size)
  have q2 := keepC H2 w.heap.size hz0
  clear q1
  go_wp2_with fail
  · go_ret
    exact ⟨rfl, hb0.trans (H2.mono hb0.size)⟩
  have hno : no ≤ 1048576 := by omega
  clear hr2
  refine (toCharacter_c x.k A n c x.l x.cs x.p x.gs _ (h00.next H2) (by omega)).mono ?_
  rintro e w3 ⟨A3, c3', rfl, ho3, hb3⟩
  have H3 := H2.trans (hb3.mono H2.size)
  go_wp2_with fail
  refine (toPhaseS_c Ao no co o _ (o00.next H3) hno).mono ?_
  rintro e w4 ⟨v4, rfl, hp4, hb4⟩
  obtain ⟨AP, cP, rfl⟩ := own_slice hp4
  replace ho3 := own_next ho3 hb4
  have H4 := H3.trans (hb4.mono H3.size)
  go_wp2_with fail
  refine (specError_c A3 n c3' x _ (Sl.of_own ho3) (by omega) (by omega) (by omega) AP no cP o (Sl.of_own hp4) hno start).mono ?_
  rintro e w5 ⟨rfl, hb5⟩
  have H5 := H4.trans (hb5.mono H4.size)
  have q5 := keepC H5 w.heap.size hz0
  clear q2 ho3 hp4 hb5 hb4 hb3 H4 H3
  go_wp2_with fail
  refine (toCharacter_c x.k A n c x.l x.cs x.p x.gs _ (h00.next H5) (by omega)).mono ?_
  rintro e w6 ⟨A4, c4', rfl, hoX, hb6⟩
  have H6 := H5.trans (hb6.mono H5.size)
  have q6 := keepC H6 w.heap.size hz0
  clear q5
  go_wp2_with fail
  have hbx : Below w6.heap.size w6 (w6.alloc (.cells #[.int .i64 x.k, .slice A4 n c4', .string x.l, .string x.cs, .int .i64 x.p] 30)) := by (repeat (first | (with_reducible assumption) | (with_reducible exact Below.refl _ _) | exact Nat.le_refl _ | exact Below.size (by with_reducible assumption) | (with_reducible refine Below.drew ?_) | (with_reducible refine below_drewN ?_ _) | (with_reducible refine Below.alloc ?_ ?_ _) | (with_reducible refine Below.setCell ?_ ?_ _) | (with_reducible refine le_alloc ?_ _) | (with_reducible refine le_set ?_ _ _) | (with_reducible refine le_drew ?_) | (with_reducible refine le_drewN ?_ _) | omega | (dsimp only; omega)))
  obtain ⟨d0, d1, d2, d3, d4, hbd, s7, _, _, _⟩ := chp_box (c := c4') 30 (Sl.of_own hoX) (by omega) (by omega) (by omega)
  simp only [Nat.zero_add] at d0 d1 d2 d3 d4
  have H7 := H6.trans (hbx.mono H6.size)
  have q7 := keepC H7 w.heap.size hz0
  generalize w6.alloc (.cells #[.int .i64 x.k, .slice A4 n c4', .string x.l, .string x.cs, .int .i64 x.p] 30) = w7 at *
  clear q6 hoX
  refine (toPhaseS_c Ao no co o _ (o00.next H7) hno).mono ?_
  rintro e w8 ⟨v8, rfl, hpX, hb8⟩
  obtain ⟨AX, cX, rfl⟩ := own_slice hpX
  have s8 := s7.next hb8
  have H8 := H7.trans (hb8.mono H7.size)
  have q8 := keepC H8 w.heap.size hz0
  have v8 := keepC hb8 w6.heap.size hbd
  have K8 := hb8
  clear q7
  go_wp2_with fail
  refine (implError_c A4 n c4' x _ s8 (by omega) (by omega) (by omega) AX no cX o (Sl.of_own hpX) hno start Hso.out).mono ?_
  rintro e w9 ⟨rfl, hb9⟩
  replace hpX := own_next hpX hb9
  have s9 := s8.next hb9
  have H9 := H8.trans (hb9.mono H8.size)
  have K9 := K8.trans (hb9.mono K8.size)
  have q9 := keepC H9 w.heap.size hz0
  have v9 := keepC K9 w6.heap.size hbd
  clear q8 v8
  go_wp2_with fail
  have z9 : w.heap.size < w9.heap.size := Nat.lt_of_lt_of_le hz0 H9.size
  have y9 : w6.heap.size < w9.heap.size := Nat.lt_of_lt_of_le hbd K9.size
  have e9 : ∀ {w' : World}, Below w9.heap.size w9 w' → (Below w9.heap.size w9 w' ∧ (∀ x, w'.cell? ⟨w.heap.size, x, none⟩ = w9.cell? ⟨w.heap.size, x, none⟩) ∧ (∀ x, w'.cell? ⟨w6.heap.size, x, none⟩ = w9.cell? ⟨w6.heap.size, x, none⟩)) := fun hb => ⟨hb, keepC hb _ z9, keepC hb _ y9⟩
  refine wp_region_held_drew (S := fun w' => Below w9.heap.size w9 w' ∧ (∀ x, w'.cell? ⟨w.heap.size, x, none⟩ = w9.cell? ⟨w.heap.size, x, none⟩) ∧ (∀ x, w'.cell? ⟨w6.heap.size, x, none⟩ = w9.cell? ⟨w6.heap.size, x, none⟩)) (by kernel_rfl) (e9 (Below.refl _ _).drew) (fun hHeld => ?_)
  (first
    | (refine wpAnyH_take (i := 0) (v := ?_) rfl (by kernel_rfl) (by kernel_rfl) (by kernel_rfl) (fun _ _ _ h => h) (Or.inl ⟨by rfl, ?_⟩) (by assumption) ?_
       rotate_left
       focus (intro wq hSq; (try dsimp only at hSq); go_simp; (try (with_reducible rfl)); done))
    | (refine wpAnyH_take (i := 0) (v := undef) rfl (by kernel_rfl) (by kernel_rfl) (by kernel_rfl) (fun _ _ _ h => h) (Or.inr ⟨by rfl, rfl⟩) (by assumption) ?_)
    | fail "take 0")
  try simp only [Act.put, List.setIfInBounds_toArray, List.set_cons_zero, List.set_cons_succ, List.getElem_toArray, List.getElem_cons_zero]
  (first
    | (refine wpAnyH_take (i := 1) (v := ?_) rfl (by kernel_rfl) (by kernel_rfl) (by kernel_rfl) (fun _ _ _ h => h) (Or.inl ⟨by rfl, ?_⟩) (by assumption) ?_
       rotate_left
       focus (intro wq hSq; (try dsimp only at hSq); go_simp; (try (with_reducible rfl)); done))
    | (refine wpAnyH_take (i := 1) (v := undef) rfl (by kernel_rfl) (by kernel_rfl) (by kernel_rfl) (fun _ _ _ h => h) (Or.inr ⟨by rfl, rfl⟩) (by assumption) ?_)
    | fail "take 1")
  try simp only [Act.put, List.setIfInBounds_toArray, List.set_cons_zero, List.set_cons_succ, List.getElem_toArray, List.getElem_cons_zero, List.getElem_cons_succ]
  refine wpAnyH_ready (rs := [2]) (by kernel_rfl) (by simp) ?_
  refine AllReadyH.cons (o := _) rfl (fun K hK => ?_) AllReadyH.nil
  go_simp
  refine (toCharacter_c x.k A n c x.l x.cs x.p x.gs _ ((h00.next H9).next (Below.refl _ _).drew) (by omega)).mono ?_; rintro e w10 ⟨A9, c9, rfl, ho9, hb10⟩; have hb910 := (Below.refl w9.heap.size w9).drew.trans hb10
  refine hK.out _ _ ?_ (fun hHeld => ?_)
  · exact e9 hb910
  clear hK K
  try simp only [Act.put, List.setIfInBounds_toArray, List.set_cons_zero, List.set_cons_succ, List.getElem_toArray, List.getElem_cons_zero, List.getElem_cons_succ]
  refine wpAnyH_ready (rs := [3]) (by kernel_rfl) (by simp) ?_
  refine AllReadyH.cons (o := _) rfl (fun K hK => ?_) AllReadyH.nil
  go_simp
  refine (eqCharacter_c x.k A4 A9 n c4' c9 x.l x.cs x.p x.gs _ (s9.next hb910) (Sl.of_own ho9) (by omega)).mono ?_; rintro e w11 ⟨rfl, hb11⟩; have hb911 := hb910.trans (hb11.mono hb910.size)
  refine hK.out _ _ ?_ (fun hHeld => ?_)
  · exact e9 hb911
  clear hK K
  try simp only [Act.put, List.setIfInBounds_toArray, List.set_cons_zero, List.set_cons_succ, List.getElem_toArray, List.getElem_cons_zero, List.getElem_cons_succ]
  (first
    | (refine wpAnyH_take (i := 4) (v := ?_) rfl (by kernel_rfl) (by kernel_rfl) (by kernel_rfl) (fun _ _ _ h => h) (Or.inl ⟨by rfl, ?_⟩) (by assumption) ?_
       rotate_left
       focus (intro wq hSq; (try dsimp only at hSq); go_simp; (try (with_reducible rfl)); done))
    | (refine wpAnyH_take (i := 4) (v := undef) rfl (by kernel_rfl) (by kernel_rfl) (by kernel_rfl) (fun _ _ _ h => h) (Or.inr ⟨by rfl, rfl⟩) (by assumption) ?_)
    | fail "take 4")
  try simp only [Act.put, List.setIfInBounds_toArray, List.set_cons_zero, List.set_cons_succ, List.getElem_toArray, List.getElem_cons_zero, List.getElem_cons_succ]
  refine wpAnyH_done (by kernel_rfl) ?_ _
  replace hpX := own_next hpX hb911
  have H11 := H9.trans (hb911.mono H9.size)
  clear q9 v9 e9 hHeld ho9 hb10 hb910 hb11
  go_wp2_with fail
  refine (toPhaseS_c Ao no co o _ (o00.next H11) hno).mono ?_
  rintro e w12 ⟨v12, rfl, hp12, hb12⟩
  obtain ⟨A12, c12, rfl⟩ := own_slice hp12
  replace hpX := own_next hpX hb12
  have H12 := H11.trans (hb12.mono H11.size)
  go_wp2_with fail
  refine (eqPhaseS_c AX A12 no cX c12 o _ (Sl.of_own hpX) (Sl.of_own hp12) hmo).mono ?_
  rintro e w13 ⟨rfl, hb13⟩
  have H13 := H12.trans (hb13.mono H12.size)
  go_wp2_with fail
  go_ret
  exact ⟨rfl, hb0.trans (H13.mono hb0.size)⟩
end Go.Proofs.Ytgfplmfdgbklkaa
