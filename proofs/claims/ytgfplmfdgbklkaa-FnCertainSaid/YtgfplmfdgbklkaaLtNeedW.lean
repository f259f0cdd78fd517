/- PhasesNeeded, both sides. -/
import Derived.Test.YtgfplmfdgbklkaaLtG
namespace Go.Proofs.Ytgfplmfdgbklkaa
open Go.RowKit
theorem need_obs {x : Ch} (hv : validB x = true) {j : Nat} (hj : j < 24) (h1 : x.k = 1 → j = 0) : ObsOK (seeL (phasesL x (oneC x.cs)) (firstLit x) (j + 1)) (j + 1) :=
  obsB_ok (see_obs hv (oneC_col hv) (start_first hv) (fun h => by rw [h1 h]) (by omega) (by omega)) (seeL_len _ _ _)
theorem all_no {k : Nat} {p : Nat → Bool} (h : ∀ i, i < k → p i = false) (hk : p k = false) : ∀ i, i < k + 1 → p i = false := fun i hi => by
  rcases Nat.lt_or_ge i k with h1 | h1
  · exact h i h1
  · obtain rfl : i = k := by omega
    exact hk
set_option maxRecDepth 100000 in
set_option maxHeartbeats 2000000 in
theorem specNeed_c (A : Option Addr) (n c : Nat) (zs : List ChG) (k tol : Int) (w : World) (h : ChS w A n zs) (hm : n ≤ 1048576) :
    Calls Try.prog 24 #[.slice A n c, .int .i64 k, .int .i64 tol] w fun e w' => e = .returned (.tuple #[.int .i64 (pnV zs k tol), .int .i64 (pnK zs k tol)]) ∧ Below w.heap.size w w' := by
  have hl := h.len
  have Hl := Lib.hid hl; clear hl
  cases hv : lightsB zs
  · have hC : pnC zs k tol = 1 := by rw [pnC, hv]; rfl
    have HC := Lib.hid hC; clear hC
    go_enter Try.func24, Try.ntmps24
    go_wp2_with fail
    refine (l17Lights_c A n c zs _ h hm).mono ?_
    rw [hv]
    rintro e w1 ⟨rfl, hb1⟩
    go_wp2_with fail
    go_ret2
    exact ⟨by simp [pnV, pnK, HC.out], hb1⟩
  obtain ⟨hvz, h64⟩ := lights_valid hv
  rw [Hl.out] at h64
  have hwn : IntKind.i64.wrap ((n : Int) - 1) = (n : Int) - 1 := IntWalk.i64_in _ (by omega)
  by_cases hk : 0 ≤ k ∧ k < n
  · obtain ⟨hk0, hk1⟩ := hk
    obtain ⟨i, rfl⟩ := Int.eq_ofNat_of_zero_le hk0
    obtain ⟨b, off, z, rfl, hx, hpz⟩ := h.ptr i (by omega)
    have hi1 : inB (i : Int) 0 ((n : Int) - 1) = true := inB_iff.2 (by omega)
    cases hti : inB tol 0 100
    · have hC : pnC zs i tol = 2 := by rw [pnC, hv, hti, Hl.out]; simp
      have HC := Lib.hid hC; clear hC
      go_enter Try.func24, Try.ntmps24
      go_wp2_with fail
      refine (l17Lights_c (some ⟨b, off, none⟩) n c zs _ h hm).mono ?_
      rw [hv]
      rintro e w1 ⟨rfl, hb1⟩
      go_wp2_with ((go_at_call 72; refine (l00In_c _ _ _ _).mono ?_; rw [hi1]; rintro e w3 ⟨rfl, rfl⟩))
      refine (l17Tol_c _ _).mono ?_
      rw [hti]
      rintro e w3 ⟨rfl, rfl⟩
      go_wp2_with fail
      go_ret2
      exact ⟨by simp [pnV, pnK, HC.out], hb1⟩
    · have hC : pnC zs i tol = 0 := by
        rw [pnC, hv, hti, Hl.out]
        have : (decide (0 ≤ (i : Int)) && decide ((i : Int) < n)) = true := by simp; omega
        rw [this]; rfl
      obtain ⟨t0, t1⟩ := inB_iff.1 hti
      have hzm := List.mem_of_getElem? hx
      have hvx := hvz z hzm
      have hI := pnI_at hx tol
      obtain ⟨hc1, hc3⟩ := colors_one hvx
      have hc1' : (1 : Int) ≤ (z.x.cs.size : Int) := by omega
      have hobs : ∀ j : Nat, j < 24 → (z.x.k = 1 → j = 0) → ObsOK (seeL (phasesL z.x (oneC z.x.cs)) (firstLit z.x) (j + 1)) (j + 1) := fun j => need_obs hvx
      obtain ⟨st, hst⟩ : ∃ st, firstLit z.x = st := ⟨_, rfl⟩
      rw [hst] at hobs
      have hlen := phases_len (co := oneC z.x.cs) (valid_shape hvx)
      have hpc : ∀ p, (phasesL z.x (oneC z.x.cs))[0]? = some p → p.c = bif litAt (ocB z.x) 0 then oneC z.x.cs else ⟨#[]⟩ := fun p => phases_col
      have hN1 : ∀ j : Nat, j < 24 → (∀ m, m < j → needB zs z.x tol m = false) → needB zs z.x tol j = true → needI zs z.x tol = j := fun j => need_first
      have hN2 : (∀ m, m < 24 → needB zs z.x tol m = false) → needI zs z.x tol = -1 := need_none
      have hN3 : z.x.k = 1 → needB zs z.x tol 0 = false → needI zs z.x tol = -1 := need_fixed
      have hnb := fun j : Nat => show needB zs z.x tol j = ((!(z.x.k == 1) || decide (j = 0)) && decide ((hitsN zs (seeL (phasesL z.x (oneC z.x.cs)) (firstLit z.x) (j + 1)) tol n).length = 1)) by rw [needB, hitsL, Hl.out]
      rw [hst] at hnb
      have Hst := Lib.hid hst; clear hst
      have hE := colB_E2 (oneC_col hvx)
      have HC := Lib.hid hC; clear hC
      have HI := Lib.hid hI; clear hI
      have Hx := Lib.hid hx; clear hx
      have Hvz := Lib.hid hvz; clear hvz
      have Hobs := Lib.hid hobs; clear hobs
      have Hpc := Lib.hid hpc; clear hpc
      have HN1 := Lib.hid hN1; clear hN1
      have HN2 := Lib.hid hN2; clear hN2
      have HN3 := Lib.hid hN3; clear hN3
      have Hnb := Lib.hid hnb; clear hnb
      have HE := Lib.hid hE; clear hE
      have j0 : (0 : Int) ≤ (i : Int) := by omega
      have j1 : (i : Int) < (n : Int) := by omega
      go_enter Try.func24, Try.ntmps24
      go_wp2_with fail
      refine (l17Lights_c (some ⟨b, off, none⟩) n c zs _ h hm).mono ?_
      rw [hv]
      rintro e w1 ⟨rfl, hb1⟩
      go_wp2_with ((go_at_call 72; refine (l00In_c _ _ _ _).mono ?_; rw [hi1]; rintro e w3 ⟨rfl, rfl⟩))
      refine (l17Tol_c _ _).mono ?_
      rw [hti]
      rintro e w3 ⟨rfl, rfl⟩
      go_wp2_with fail
      have hpz2 := hpz
      obtain ⟨c0, c1, c2, c3, c4, hb, _, _, _, _⟩ := hpz2
      have z1 : b < w1.heap.size := Nat.lt_of_lt_of_le hb hb1.size
      have q1 := keepC hb1 b hb
      have hpz1 := hpz.next hb1
      have e1 : ∀ {w' : World}, Below w1.heap.size w1 w' → (Below w1.heap.size w1 w' ∧ (∀ x, w'.cell? ⟨b, x, none⟩ = w1.cell? ⟨b, x, none⟩)) := fun hb => ⟨hb, keepC hb _ z1⟩
      refine wp_region_held_drew (S := fun w' => Below w1.heap.size w1 w' ∧ (∀ x, w'.cell? ⟨b, x, none⟩ = w1.cell? ⟨b, x, none⟩)) (by kernel_rfl) (e1 (Below.refl _ _).drew) (fun hHeld => ?_)
      (first
        | (refine wpAnyH_take (i := 0) (v := ?_) rfl (by kernel_rfl) (by kernel_rfl) (by kernel_rfl) (fun _ _ _ h => h) (Or.inl ⟨by rfl, ?_⟩) (by assumption) ?_
           rotate_left
           focus (intro wq hSq; (try dsimp only at hSq); go_simp; (try (with_reducible rfl)); done))
        | (refine wpAnyH_take (i := 0) (v := undef) rfl (by kernel_rfl) (by kernel_rfl) (by kernel_rfl) (fun _ _ _ h => h) (Or.inr ⟨by rfl, rfl⟩) (by assumption) ?_)
        | fail "take 0")
      try simp only [Act.put, List.setIfInBounds_toArray, List.set_cons_zero, List.set_cons_succ, List.getElem_toArray, List.getElem_cons_zero]
      (first
        | (refine wpAnyH_take (i := 1) (v := ?_) rfl (by kernel_rfl) (by kernel_rfl) (by kernel_rfl) (fun _ _ _ h => h) (Or.inl ⟨by rfl, ?_⟩) (by assumption) ?_
           rotate_left
           focus (intro wq hSq; (try dsimp only at hSq); go_simp; (try (with_reducible rfl)); done))
        | (refine wpAnyH_take (i := 1) (v := undef) rfl (by kernel_rfl) (by kernel_rfl) (by kernel_rfl) (fun _ _ _ h => h) (Or.inr ⟨by rfl, rfl⟩) (by assumption) ?_)
        | fail "take 1")
      try simp only [Act.put, List.setIfInBounds_toArray, List.set_cons_zero, List.set_cons_succ, List.getElem_toArray, List.getElem_cons_zero, List.getElem_cons_succ]
      (first
        | (refine wpAnyH_take (i := 2) (v := ?_) rfl (by kernel_rfl) (by kernel_rfl) (by kernel_rfl) (fun _ _ _ h => h) (Or.inl ⟨by rfl, ?_⟩) (by assumption) ?_
           rotate_left
           focus (intro wq hSq; (try dsimp only at hSq); go_simp; (try (with_reducible rfl)); done))
        | (refine wpAnyH_take (i := 2) (v := undef) rfl (by kernel_rfl) (by kernel_rfl) (by kernel_rfl) (fun _ _ _ h => h) (Or.inr ⟨by rfl, rfl⟩) (by assumption) ?_)
        | fail "take 2")
      try simp only [Act.put, List.setIfInBounds_toArray, List.set_cons_zero, List.set_cons_succ, List.getElem_toArray, List.getElem_cons_zero, List.getElem_cons_succ]
      (first
        | (refine wpAnyH_take (i := 3) (v := ?_) rfl (by kernel_rfl) (by kernel_rfl) (by kernel_rfl) (fun _ _ _ h => h) (Or.inl ⟨by rfl, ?_⟩) (by assumption) ?_
           rotate_left
           focus (intro wq hSq; (try dsimp only at hSq); go_simp; (try (with_reducible rfl)); done))
        | (refine wpAnyH_take (i := 3) (v := undef) rfl (by kernel_rfl) (by kernel_rfl) (by kernel_rfl) (fun _ _ _ h => h) (Or.inr ⟨by rfl, rfl⟩) (by assumption) ?_)
        | fail "take 3")
      try simp only [Act.put, List.setIfInBounds_toArray, List.set_cons_zero, List.set_cons_succ, List.getElem_toArray, List.getElem_cons_zero, List.getElem_cons_succ]
      (first
        | (refine wpAnyH_take (i := 4) (v := ?_) rfl (by kernel_rfl) (by kernel_rfl) (by kernel_rfl) (fun _ _ _ h => h) (Or.inl ⟨by rfl, ?_⟩) (by assumption) ?_
           rotate_left
           focus (intro wq hSq; (try dsimp only at hSq); go_simp; (try (with_reducible rfl)); done))
        | (refine wpAnyH_take (i := 4) (v := undef) rfl (by kernel_rfl) (by kernel_rfl) (by kernel_rfl) (fun _ _ _ h => h) (Or.inr ⟨by rfl, rfl⟩) (by assumption) ?_)
        | fail "take 4")
      try simp only [Act.put, List.setIfInBounds_toArray, List.set_cons_zero, List.set_cons_succ, List.getElem_toArray, List.getElem_cons_zero, List.getElem_cons_succ]
      (first
        | (refine wpAnyH_take (i := 5) (v := ?_) rfl (by kernel_rfl) (by kernel_rfl) (by kernel_rfl) (fun _ _ _ h => h) (Or.inl ⟨by rfl, ?_⟩) (by assumption) ?_
           rotate_left
           focus (intro wq hSq; (try dsimp only at hSq); go_simp; (try (with_reducible rfl)); done))
        | (refine wpAnyH_take (i := 5) (v := undef) rfl (by kernel_rfl) (by kernel_rfl) (by kernel_rfl) (fun _ _ _ h => h) (Or.inr ⟨by rfl, rfl⟩) (by assumption) ?_)
        | fail "take 5")
      try simp only [Act.put, List.setIfInBounds_toArray, List.set_cons_zero, List.set_cons_succ, List.getElem_toArray, List.getElem_cons_zero, List.getElem_cons_succ]
      (first
        | (refine wpAnyH_take (i := 6) (v := ?_) rfl (by kernel_rfl) (by kernel_rfl) (by kernel_rfl) (fun _ _ _ h => h) (Or.inl ⟨by rfl, ?_⟩) (by assumption) ?_
           rotate_left
           focus (intro wq hSq; (try dsimp only at hSq); go_simp; (try (with_reducible rfl)); done))
        | (refine wpAnyH_take (i := 6) (v := undef) rfl (by kernel_rfl) (by kernel_rfl) (by kernel_rfl) (fun _ _ _ h => h) (Or.inr ⟨by rfl, rfl⟩) (by assumption) ?_)
        | fail "take 6")
      try simp only [Act.put, List.setIfInBounds_toArray, List.set_cons_zero, List.set_cons_succ, List.getElem_toArray, List.getElem_cons_zero, List.getElem_cons_succ]
      (first
        | (refine wpAnyH_take (i := 7) (v := ?_) rfl (by kernel_rfl) (by kernel_rfl) (by kernel_rfl) (fun _ _ _ h => h) (Or.inl ⟨by rfl, ?_⟩) (by assumption) ?_
           rotate_left
           focus (intro wq hSq; (try dsimp only at hSq); go_simp; (try (with_reducible rfl)); done))
        | (refine wpAnyH_take (i := 7) (v := undef) rfl (by kernel_rfl) (by kernel_rfl) (by kernel_rfl) (fun _ _ _ h => h) (Or.inr ⟨by rfl, rfl⟩) (by assumption) ?_)
        | fail "take 7")
      try simp only [Act.put, List.setIfInBounds_toArray, List.set_cons_zero, List.set_cons_succ, List.getElem_toArray, List.getElem_cons_zero, List.getElem_cons_succ]
      (first
        | (refine wpAnyH_take (i := 8) (v := ?_) rfl (by kernel_rfl) (by kernel_rfl) (by kernel_rfl) (fun _ _ _ h => h) (Or.inl ⟨by rfl, ?_⟩) (by assumption) ?_
           rotate_left
           focus (intro wq hSq; (try dsimp only at hSq); go_simp; (try (with_reducible rfl)); done))
        | (refine wpAnyH_take (i := 8) (v := undef) rfl (by kernel_rfl) (by kernel_rfl) (by kernel_rfl) (fun _ _ _ h => h) (Or.inr ⟨by rfl, rfl⟩) (by assumption) ?_)
        | fail "take 8")
      try simp only [Act.put, List.setIfInBounds_toArray, List.set_cons_zero, List.set_cons_succ, List.getElem_toArray, List.getElem_cons_zero, List.getElem_cons_succ]
      refine wpAnyH_ready (rs := [9]) (by kernel_rfl) (by simp) ?_
      refine AllReadyH.cons (o := _) rfl (fun K hK => ?_) AllReadyH.nil
      go_simp
      refine (l05Phases_c b (off + i * 5) z.A z.n z.c z.x (oneC z.x.cs) _ (hpz1.next (Below.refl _ _).drew) hvx).mono ?_; rintro e w2 ⟨v, rfl, hoT, hb2⟩; obtain ⟨AT, cT, rfl⟩ := own_slice hoT; have hb12 := (Below.refl w1.heap.size w1).drew.trans hb2; have sT := Sl.of_own hoT
      refine hK.out _ _ ?_ (fun hHeld => ?_)
      · exact e1 hb12
      clear hK K
      try simp only [Act.put, List.setIfInBounds_toArray, List.set_cons_zero, List.set_cons_succ, List.getElem_toArray, List.getElem_cons_zero, List.getElem_cons_succ]
      (first
        | (refine wpAnyH_take (i := 10) (v := ?_) rfl (by kernel_rfl) (by kernel_rfl) (by kernel_rfl) (fun _ _ _ h => h) (Or.inl ⟨by rfl, ?_⟩) (by assumption) ?_
           rotate_left
           focus (intro wq hSq; (try dsimp only at hSq); go_simp; (try (with_reducible rfl)); done))
        | (refine wpAnyH_take (i := 10) (v := undef) rfl (by kernel_rfl) (by kernel_rfl) (by kernel_rfl) (fun _ _ _ h => h) (Or.inr ⟨by rfl, rfl⟩) (by assumption) ?_)
        | fail "take 10")
      try simp only [Act.put, List.setIfInBounds_toArray, List.set_cons_zero, List.set_cons_succ, List.getElem_toArray, List.getElem_cons_zero, List.getElem_cons_succ]
      refine wpAnyH_done (by kernel_rfl) ?_ _
      clear e1 hHeld hoT hb2
      have hb02 := hb1.trans (hb12.mono hb1.size)
      obtain ⟨N, hN⟩ : ∃ N, (phasesL z.x (oneC z.x.cs)).length = N := ⟨_, rfl⟩
      rw [hN] at sT hlen ⊢
      have HN := Lib.hid hN; clear hN
      obtain ⟨b4, off4, p, rfl, hb4, hp, x1, x2⟩ := sT.ph 0 (by omega)
      rw [Nat.zero_mul, Nat.add_zero] at x1 x2
      have hpe := Hpc.out _ hp
      have q2 := keepC hb02 b hb
      have hln : (0 : Int) < (N : Int) := by omega
      have Hp := Lib.hid hp; clear hp
      cases hoc : ocB z.x
      · have hp0 : p.c.toList.isEmpty = false := by rw [hpe, hoc]; exact HE.out
        obtain rfl : st = 0 := by rw [← Hst.out, firstLit, hoc]; rfl
        clear hpe
        have Hoc := Lib.hid hoc; clear hoc
        go_wp2_with fail
        clear hp0 x1 x2 z1 q1
        go_loopw [10] (fun i wr => ∃ j : Nat, j ≤ 24 ∧ i = .int .i64 (j + 1 : Nat) ∧ Hid (∀ m, m < j → needB zs z.x tol m = false) ∧ (z.x.k = 1 → j ≤ 1) ∧ Below w2.heap.size w2 wr) (fun i _ => 25 - (intOf i).toNat)
        case atStart => exact ⟨0, by omega, rfl, Lib.hid (fun m hm => absurd hm (by omega)), fun _ => by omega, Below.refl _ _⟩
        case round =>
          obtain ⟨j, hj, rfl, Hno, hk1, hbw⟩ := hrel
          have hbq := hb02.trans (hbw.mono hb02.size)
          have q3 := keepC hbq b hb
          have hw1 : ((j + 1 : Nat) : Int) = (j : Int) + 1 := by omega
          rw [hw1]
          by_cases hlt : j < 24
          · by_cases hk : z.x.k = 1
            · have hk' : (z.x.k == 1) = true := by simpa using hk
              have hj1 := hk1 hk
              clear hk1
              by_cases hj0 : j < 1
              · have hkj : (!(z.x.k == 1) || decide (j = 0)) = true := by rw [decide_eq_true (show j = 0 by omega)]; simp
                have hk0 : z.x.k = 1 → j = 0 := fun _ => by omega
                have Hk0 := Lib.hid hk0; clear hk0
                have Hkj := Lib.hid hkj; clear hkj
                have Hk := Lib.hid hk; clear hk
                go_wp2_with fail
                refine (l17See_c (some ⟨b4, off4, none⟩) N cT (phasesL z.x (oneC z.x.cs)) _ (j + 1) _ (sT.next hbw) (by omega) (by omega) (by omega) (by omega) (by omega)).mono ?_
                rintro e w3 ⟨v3, rfl, hoS, hb3⟩
                obtain ⟨AS, cS, rfl⟩ := own_slice hoS
                have hbq3 := hbq.trans (hb3.mono hbq.size)
                have hbw3 := hbw.trans (hb3.mono hbw.size)
                go_wp2_with fail
                refine (l17All_c (some ⟨b, off, none⟩) n c zs AS (j + 1) cS _ tol _ (h.next hbq3) Hvz.out h64 (Sl.of_own hoS) (Hobs.out _ hlt Hk0.out) t0 (by omega)).mono ?_
                rintro e w4 ⟨v4, rfl, hov, hb4'⟩
                obtain ⟨A5, c5, rfl⟩ := own_slice hov
                clear hov hoS
                have hbq4 := hbq3.trans (hb4'.mono hbq3.size)
                have hbw4 := hbw3.trans (hb4'.mono hbw3.size)
                have hnj := Hnb.out j
                rw [Hkj.out, Bool.true_and] at hnj
                generalize (hitsN zs (seeL (phasesL z.x (oneC z.x.cs)) _ (j + 1)) tol n).length = M at hnj ⊢
                by_cases hM1 : M = 1
                · rw [decide_eq_true hM1] at hnj
                  have hV := HN1.out _ hlt Hno.out hnj
                  subst hM1
                  have Hnj := Lib.hid hnj; clear hnj
                  have HV := Lib.hid hV; clear hV
                  go_wp2_with fail
                  go_ret2
                  exact ⟨by simp [pnV, pnK, HC.out, HI.out, HV.out], hbq4⟩
                · rw [decide_eq_false hM1] at hnj
                  have hM2 : ((M : Int) == 1) = false := by simpa using (show ¬ ((M : Int) = 1) by omega)
                  have Hnj := Lib.hid hnj; clear hnj
                  have HM1 := Lib.hid hM1; clear hM1
                  go_wp2_with fail
                  go_roundw
                  case rel => exact ⟨j + 1, by omega, by go_num, Lib.hid (all_no Hno.out Hnj.out), fun hk => by have := Hk0.out hk; omega, hbw4⟩
                  case measure => simp [intOf]; omega
              · obtain rfl : j = 1 := by omega
                have hV := HN3.out hk (Hno.out 0 (by omega))
                have HV := Lib.hid hV; clear hV
                have Hk := Lib.hid hk; clear hk
                go_wp2_with fail
                go_ret2
                exact ⟨by simp [pnV, pnK, HC.out, HI.out, HV.out], hbq⟩
            · have hk' : (z.x.k == 1) = false := by simpa using hk
              clear hk1
              have hkj : (!(z.x.k == 1) || decide (j = 0)) = true := by rw [hk']; rfl
              have hk0 : z.x.k = 1 → j = 0 := fun h => absurd h hk
              have Hk0 := Lib.hid hk0; clear hk0
              have Hkj := Lib.hid hkj; clear hkj
              have Hk := Lib.hid hk; clear hk
              go_wp2_with fail
              refine (l17See_c (some ⟨b4, off4, none⟩) N cT (phasesL z.x (oneC z.x.cs)) _ (j + 1) _ (sT.next hbw) (by omega) (by omega) (by omega) (by omega) (by omega)).mono ?_
              rintro e w3 ⟨v3, rfl, hoS, hb3⟩
              obtain ⟨AS, cS, rfl⟩ := own_slice hoS
              have hbq3 := hbq.trans (hb3.mono hbq.size)
              have hbw3 := hbw.trans (hb3.mono hbw.size)
              go_wp2_with fail
              refine (l17All_c (some ⟨b, off, none⟩) n c zs AS (j + 1) cS _ tol _ (h.next hbq3) Hvz.out h64 (Sl.of_own hoS) (Hobs.out _ hlt Hk0.out) t0 (by omega)).mono ?_
              rintro e w4 ⟨v4, rfl, hov, hb4'⟩
              obtain ⟨A5, c5, rfl⟩ := own_slice hov
              clear hov hoS
              have hbq4 := hbq3.trans (hb4'.mono hbq3.size)
              have hbw4 := hbw3.trans (hb4'.mono hbw3.size)
              have hnj := Hnb.out j
              rw [Hkj.out, Bool.true_and] at hnj
              generalize (hitsN zs (seeL (phasesL z.x (oneC z.x.cs)) _ (j + 1)) tol n).length = M at hnj ⊢
              by_cases hM1 : M = 1
              · rw [decide_eq_true hM1] at hnj
                have hV := HN1.out _ hlt Hno.out hnj
                subst hM1
                have Hnj := Lib.hid hnj; clear hnj
                have HV := Lib.hid hV; clear hV
                go_wp2_with fail
                go_ret2
                exact ⟨by simp [pnV, pnK, HC.out, HI.out, HV.out], hbq4⟩
              · rw [decide_eq_false hM1] at hnj
                have hM2 : ((M : Int) == 1) = false := by simpa using (show ¬ ((M : Int) = 1) by omega)
                have Hnj := Lib.hid hnj; clear hnj
                have HM1 := Lib.hid hM1; clear hM1
                go_wp2_with fail
                go_roundw
                case rel => exact ⟨j + 1, by omega, by go_num, Lib.hid (all_no Hno.out Hnj.out), fun hk => by have := Hk0.out hk; omega, hbw4⟩
                case measure => simp [intOf]; omega
          · obtain rfl : j = 24 := by omega
            have hV := HN2.out Hno.out
            have HV := Lib.hid hV; clear hV
            clear hk1
            go_wp2_with fail
            go_ret2
            exact ⟨by simp [pnV, pnK, HC.out, HI.out, HV.out], hbq⟩
      · have hp0 : p.c.toList.isEmpty = true := by rw [hpe, hoc, show (bif litAt true 0 then oneC z.x.cs else ⟨#[]⟩) = (⟨#[]⟩ : ByteArray) from rfl, emp_E]; rfl
        obtain rfl : st = 1 := by rw [← Hst.out, firstLit, hoc]; rfl
        clear hpe
        have Hoc := Lib.hid hoc; clear hoc
        go_wp2_with fail
        clear hp0 x1 x2 z1 q1
        go_loopw [10] (fun i wr => ∃ j : Nat, j ≤ 24 ∧ i = .int .i64 (j + 1 : Nat) ∧ Hid (∀ m, m < j → needB zs z.x tol m = false) ∧ (z.x.k = 1 → j ≤ 1) ∧ Below w2.heap.size w2 wr) (fun i _ => 25 - (intOf i).toNat)
        case atStart => exact ⟨0, by omega, rfl, Lib.hid (fun m hm => absurd hm (by omega)), fun _ => by omega, Below.refl _ _⟩
        case round =>
          obtain ⟨j, hj, rfl, Hno, hk1, hbw⟩ := hrel
          have hbq := hb02.trans (hbw.mono hb02.size)
          have q3 := keepC hbq b hb
          have hw1 : ((j + 1 : Nat) : Int) = (j : Int) + 1 := by omega
          rw [hw1]
          by_cases hlt : j < 24
          · by_cases hk : z.x.k = 1
            · have hk' : (z.x.k == 1) = true := by simpa using hk
              have hj1 := hk1 hk
              clear hk1
              by_cases hj0 : j < 1
              · have hkj : (!(z.x.k == 1) || decide (j = 0)) = true := by rw [decide_eq_true (show j = 0 by omega)]; simp
                have hk0 : z.x.k = 1 → j = 0 := fun _ => by omega
                have Hk0 := Lib.hid hk0; clear hk0
                have Hkj := Lib.hid hkj; clear hkj
                have Hk := Lib.hid hk; clear hk
                go_wp2_with fail
                refine (l17See_c (some ⟨b4, off4, none⟩) N cT (phasesL z.x (oneC z.x.cs)) _ (j + 1) _ (sT.next hbw) (by omega) (by omega) (by omega) (by omega) (by omega)).mono ?_
                rintro e w3 ⟨v3, rfl, hoS, hb3⟩
                obtain ⟨AS, cS, rfl⟩ := own_slice hoS
                have hbq3 := hbq.trans (hb3.mono hbq.size)
                have hbw3 := hbw.trans (hb3.mono hbw.size)
                go_wp2_with fail
                refine (l17All_c (some ⟨b, off, none⟩) n c zs AS (j + 1) cS _ tol _ (h.next hbq3) Hvz.out h64 (Sl.of_own hoS) (Hobs.out _ hlt Hk0.out) t0 (by omega)).mono ?_
                rintro e w4 ⟨v4, rfl, hov, hb4'⟩
                obtain ⟨A5, c5, rfl⟩ := own_slice hov
                clear hov hoS
                have hbq4 := hbq3.trans (hb4'.mono hbq3.size)
                have hbw4 := hbw3.trans (hb4'.mono hbw3.size)
                have hnj := Hnb.out j
                rw [Hkj.out, Bool.true_and] at hnj
                generalize (hitsN zs (seeL (phasesL z.x (oneC z.x.cs)) _ (j + 1)) tol n).length = M at hnj ⊢
                by_cases hM1 : M = 1
                · rw [decide_eq_true hM1] at hnj
                  have hV := HN1.out _ hlt Hno.out hnj
                  subst hM1
                  have Hnj := Lib.hid hnj; clear hnj
                  have HV := Lib.hid hV; clear hV
                  go_wp2_with fail
                  go_ret2
                  exact ⟨by simp [pnV, pnK, HC.out, HI.out, HV.out], hbq4⟩
                · rw [decide_eq_false hM1] at hnj
                  have hM2 : ((M : Int) == 1) = false := by simpa using (show ¬ ((M : Int) = 1) by omega)
                  have Hnj := Lib.hid hnj; clear hnj
                  have HM1 := Lib.hid hM1; clear hM1
                  go_wp2_with fail
                  go_roundw
                  case rel => exact ⟨j + 1, by omega, by go_num, Lib.hid (all_no Hno.out Hnj.out), fun hk => by have := Hk0.out hk; omega, hbw4⟩
                  case measure => simp [intOf]; omega
              · obtain rfl : j = 1 := by omega
                have hV := HN3.out hk (Hno.out 0 (by omega))
                have HV := Lib.hid hV; clear hV
                have Hk := Lib.hid hk; clear hk
                go_wp2_with fail
                go_ret2
                exact ⟨by simp [pnV, pnK, HC.out, HI.out, HV.out], hbq⟩
            · have hk' : (z.x.k == 1) = false := by simpa using hk
              clear hk1
              have hkj : (!(z.x.k == 1) || decide (j = 0)) = true := by rw [hk']; rfl
              have hk0 : z.x.k = 1 → j = 0 := fun h => absurd h hk
              have Hk0 := Lib.hid hk0; clear hk0
              have Hkj := Lib.hid hkj; clear hkj
              have Hk := Lib.hid hk; clear hk
              go_wp2_with fail
              refine (l17See_c (some ⟨b4, off4, none⟩) N cT (phasesL z.x (oneC z.x.cs)) _ (j + 1) _ (sT.next hbw) (by omega) (by omega) (by omega) (by omega) (by omega)).mono ?_
              rintro e w3 ⟨v3, rfl, hoS, hb3⟩
              obtain ⟨AS, cS, rfl⟩ := own_slice hoS
              have hbq3 := hbq.trans (hb3.mono hbq.size)
              have hbw3 := hbw.trans (hb3.mono hbw.size)
              go_wp2_with fail
              refine (l17All_c (some ⟨b, off, none⟩) n c zs AS (j + 1) cS _ tol _ (h.next hbq3) Hvz.out h64 (Sl.of_own hoS) (Hobs.out _ hlt Hk0.out) t0 (by omega)).mono ?_
              rintro e w4 ⟨v4, rfl, hov, hb4'⟩
              obtain ⟨A5, c5, rfl⟩ := own_slice hov
              clear hov hoS
              have hbq4 := hbq3.trans (hb4'.mono hbq3.size)
              have hbw4 := hbw3.trans (hb4'.mono hbw3.size)
              have hnj := Hnb.out j
              rw [Hkj.out, Bool.true_and] at hnj
              generalize (hitsN zs (seeL (phasesL z.x (oneC z.x.cs)) _ (j + 1)) tol n).length = M at hnj ⊢
              by_cases hM1 : M = 1
              · rw [decide_eq_true hM1] at hnj
                have hV := HN1.out _ hlt Hno.out hnj
                subst hM1
                have Hnj := Lib.hid hnj; clear hnj
                have HV := Lib.hid hV; clear hV
                go_wp2_with fail
                go_ret2
                exact ⟨by simp [pnV, pnK, HC.out, HI.out, HV.out], hbq4⟩
              · rw [decide_eq_false hM1] at hnj
                have hM2 : ((M : Int) == 1) = false := by simpa using (show ¬ ((M : Int) = 1) by omega)
                have Hnj := Lib.hid hnj; clear hnj
                have HM1 := Lib.hid hM1; clear hM1
                go_wp2_with fail
                go_roundw
                case rel => exact ⟨j + 1, by omega, by go_num, Lib.hid (all_no Hno.out Hnj.out), fun hk => by have := Hk0.out hk; omega, hbw4⟩
                case measure => simp [intOf]; omega
          · obtain rfl : j = 24 := by omega
            have hV := HN2.out Hno.out
            have HV := Lib.hid hV; clear hV
            clear hk1
            go_wp2_with fail
            go_ret2
            exact ⟨by simp [pnV, pnK, HC.out, HI.out, HV.out], hbq⟩
  · have hC : pnC zs k tol = 2 := by
      rw [pnC, hv, Hl.out]
      have : (decide (0 ≤ k) && decide (k < n)) = false := by simp; omega
      rw [this]; rfl
    have hi1 : inB k 0 ((n : Int) - 1) = false := by
      rw [Bool.eq_false_iff]
      intro h
      have := inB_iff.1 h
      omega
    have HC := Lib.hid hC; clear hC
    go_enter Try.func24, Try.ntmps24
    go_wp2_with fail
    refine (l17Lights_c A n c zs _ h hm).mono ?_
    rw [hv]
    rintro e w1 ⟨rfl, hb1⟩
    go_wp2_with ((go_at_call 72; refine (l00In_c _ _ _ _).mono ?_; rw [hi1]; rintro e w3 ⟨rfl, rfl⟩))
    go_ret2
    exact ⟨by simp [pnV, pnK, HC.out], hb1⟩
set_option maxRecDepth 100000 in
set_option maxHeartbeats 2000000 in
theorem implNeed_c (A : Option Addr) (n c : Nat) (zs : List ChG) (k tol : Int) (w : World) (h : ChS w A n zs) (hm : n ≤ 1048576) :
    Calls Try.prog 26 #[.slice A n c, .int .i64 k, .int .i64 tol] w fun e w' => e = .returned (.tuple #[.int .i64 (pnV zs k tol), .int .i64 (pnK zs k tol)]) ∧ Below w.heap.size w w' := by
  have hl := h.len
  have Hl := Lib.hid hl; clear hl
  cases hv : lightsB zs
  · have hC : pnC zs k tol = 1 := by rw [pnC, hv]; rfl
    have HC := Lib.hid hC; clear hC
    go_enter Try.func26, Try.ntmps26
    go_wp2_with fail
    refine (areCharacters_c A n c zs _ h hm).mono ?_
    rw [hv]
    rintro e w1 ⟨rfl, hb1⟩
    go_wp2_with fail
    go_ret2
    exact ⟨by simp [pnV, pnK, HC.out], hb1⟩
  obtain ⟨hvz, h64⟩ := lights_valid hv
  rw [Hl.out] at h64
  by_cases hk : 0 ≤ k ∧ k < n
  · obtain ⟨hk0, hk1⟩ := hk
    obtain ⟨i, rfl⟩ := Int.eq_ofNat_of_zero_le hk0
    obtain ⟨b, off, z, rfl, hb, hx, hzo, c0, c1, c2, c3, c4⟩ := h.get i (by omega)
    have hi1 : (decide ((0 : Int) ≤ (i : Int)) && decide ((i : Int) < (n : Int))) = true := by simp; omega
    cases hti : inB tol 0 100
    · have hC : pnC zs i tol = 2 := by rw [pnC, hv, hti, Hl.out]; simp
      have HC := Lib.hid hC; clear hC
      go_enter Try.func26, Try.ntmps26
      go_wp2_with fail
      refine (areCharacters_c (some ⟨b, off, none⟩) n c zs _ h hm).mono ?_
      rw [hv]
      rintro e w1 ⟨rfl, hb1⟩
      go_wp2_with ((go_at_call 77; refine (at_c _ _ _).mono ?_; rw [hi1]; rintro e w3 ⟨rfl, rfl⟩))
      refine (isSlack_c _ _).mono ?_
      rw [hti]
      rintro e w3 ⟨rfl, rfl⟩
      go_wp2_with fail
      go_ret2
      exact ⟨by simp [pnV, pnK, HC.out], hb1⟩
    · have hC : pnC zs i tol = 0 := by
        rw [pnC, hv, hti, Hl.out]
        have : (decide (0 ≤ (i : Int)) && decide ((i : Int) < n)) = true := by simp; omega
        rw [this]; rfl
      obtain ⟨t0, t1⟩ := inB_iff.1 hti
      have hzm := List.mem_of_getElem? hx
      have hvx := hvz z hzm
      have hI := pnI_at hx tol
      obtain ⟨hc1, hc3⟩ := colors_one hvx
      have hc1' : (1 : Int) ≤ (z.x.cs.size : Int) := by omega
      have hobs : ∀ j : Nat, j < 24 → (z.x.k = 1 → j = 0) → ObsOK (seeL (phasesL z.x (oneC z.x.cs)) (firstLit z.x) (j + 1)) (j + 1) := fun j => need_obs hvx
      obtain ⟨st, hst⟩ : ∃ st, firstLit z.x = st := ⟨_, rfl⟩
      rw [hst] at hobs
      have hN1 : ∀ j : Nat, j < 24 → (∀ m, m < j → needB zs z.x tol m = false) → needB zs z.x tol j = true → needI zs z.x tol = j := fun j => need_first
      have hN2 : (∀ m, m < 24 → needB zs z.x tol m = false) → needI zs z.x tol = -1 := need_none
      have hN3 : z.x.k = 1 → needB zs z.x tol 0 = false → needI zs z.x tol = -1 := need_fixed
      have hnb := fun j : Nat => show needB zs z.x tol j = ((!(z.x.k == 1) || decide (j = 0)) && decide ((hitsN zs (seeL (phasesL z.x (oneC z.x.cs)) (firstLit z.x) (j + 1)) tol n).length = 1)) by rw [needB, hitsL, Hl.out]
      rw [hst] at hnb
      have hs0 := start_zero hvx
      have hs1 := start_first hvx
      have hfb := firstLit_bd z.x
      rw [hst] at hs1 hfb
      have hs2 : ocB z.x = decide (st = 1) := by rw [← hst, firstLit]; cases ocB z.x <;> simp
      have Hst := Lib.hid hst; clear hst
      have Hs0 := Lib.hid hs0; clear hs0
      have Hs1 := Lib.hid hs1; clear hs1
      have Hs2 := Lib.hid hs2; clear hs2
      have HC := Lib.hid hC; clear hC
      have HI := Lib.hid hI; clear hI
      have Hx := Lib.hid hx; clear hx
      have Hvz := Lib.hid hvz; clear hvz
      have Hobs := Lib.hid hobs; clear hobs
      have HN1 := Lib.hid hN1; clear hN1
      have HN2 := Lib.hid hN2; clear hN2
      have HN3 := Lib.hid hN3; clear hN3
      have Hnb := Lib.hid hnb; clear hnb
      have j0 : (0 : Int) ≤ (i : Int) := by omega
      have j1 : (i : Int) < (n : Int) := by omega
      go_enter Try.func26, Try.ntmps26
      go_wp2_with fail
      refine (areCharacters_c (some ⟨b, off, none⟩) n c zs _ h hm).mono ?_
      rw [hv]
      rintro e w1 ⟨rfl, hb1⟩
      have q1 := keepC hb1 b hb
      go_wp2_with ((go_at_call 77; refine (at_c _ _ _).mono ?_; rw [hi1]; rintro e w3 ⟨rfl, rfl⟩))
      refine (isSlack_c _ _).mono ?_
      rw [hti]
      rintro e w3 ⟨rfl, rfl⟩
      go_wp2_with fail
      have hbA : Below w1.heap.size w1 (w1.alloc (.cells #[.int .i64 z.x.k, .slice z.A z.n z.c, .string z.x.l, .string z.x.cs, .int .i64 z.x.p] 30)) := by (repeat (first | (with_reducible assumption) | (with_reducible exact Below.refl _ _) | exact Nat.le_refl _ | exact Below.size (by with_reducible assumption) | (with_reducible refine Below.drew ?_) | (with_reducible refine below_drewN ?_ _) | (with_reducible refine Below.alloc ?_ ?_ _) | (with_reducible refine Below.setCell ?_ ?_ _) | (with_reducible refine le_alloc ?_ _) | (with_reducible refine le_set ?_ _ _) | (with_reducible refine le_drew ?_) | (with_reducible refine le_drewN ?_ _) | omega | (dsimp only; omega)))
      have hzB : w1.heap.size < (w1.alloc (.cells #[.int .i64 z.x.k, .slice z.A z.n z.c, .string z.x.l, .string z.x.cs, .int .i64 z.x.p] 30)).heap.size := by simp
      obtain ⟨d0, d1, d2, d3, d4, _, _, _, _, _⟩ := chp_box (c := z.c) 30 (hzo.next hb1).sl hzo.hn hzo.hl hzo.hs
      simp only [Nat.zero_add] at d0 d1 d2 d3 d4
      generalize w1.alloc (.cells #[.int .i64 z.x.k, .slice z.A z.n z.c, .string z.x.l, .string z.x.cs, .int .i64 z.x.p] 30) = wA at *
      have hb0A := hb1.trans (hbA.mono hb1.size)
      go_loopw [9] (fun s wr => ∃ j : Nat, (j : Int) ≤ st ∧ s = .int .i64 j ∧ Below wA.heap.size wA wr) (fun s _ => 1 - (intOf s).toNat)
      case atStart => exact ⟨0, by omega, rfl, Below.refl _ _⟩
      case round =>
        obtain ⟨j, hj, rfl, hbw⟩ := hrel
        have q4 := keepC hbw w1.heap.size hzB
        have hbq := hb0A.trans (hbw.mono hb0A.size)
        cases hB : startB (phasesL z.x (oneC z.x.cs)) (j : Int)
        · have hj1 : (j : Int) < st := by
            rcases Classical.em ((j : Int) = st) with e | e
            · rw [e, Hs1.out] at hB; cases hB
            · omega
          go_wp2_with fail
          refine (isLitAt_c z.A z.n z.c z.x _ (hzo.next hbq).sl hzo.hn hzo.hl hzo.hs (j : Int) hvx).mono ?_
          rw [hB]
          rintro e w2 ⟨rfl, hb2⟩
          have HB := Lib.hid hB; clear hB
          go_wp2_with fail
          go_roundw
          case rel => exact ⟨j + 1, by omega, by go_num, hbw.trans (hb2.mono hbw.size)⟩
          case measure => simp [intOf]; omega
        · have hj1 : (j : Int) = st := by
            rcases Classical.em ((j : Int) = st) with e | e
            · exact e
            · obtain rfl : j = 0 := by omega
              have : st = 1 := by omega
              rw [show ((0 : Nat) : Int) = 0 from rfl, Hs0.out, Hs2.out, decide_eq_true this] at hB
              cases hB
          subst hj1
          go_wp2_with fail
          refine (isLitAt_c z.A z.n z.c z.x _ (hzo.next hbq).sl hzo.hn hzo.hl hzo.hs (j : Int) hvx).mono ?_
          rw [hB]
          rintro e w2 ⟨rfl, hb2⟩
          have HB := Lib.hid hB; clear hB
          have hbw2 := hbw.trans (hb2.mono hbw.size)
          have hb02 := hb0A.trans (hbw2.mono hb0A.size)
          have q5 := keepC hbw2 w1.heap.size hzB
          clear q4
          have hzB2 := Nat.lt_of_lt_of_le hzB hbw2.size
          cases hk : (z.x.k == 1)
          · go_wp2_with fail
            go_loopw [11] (fun i wr => ∃ m : Nat, m ≤ 24 ∧ i = .int .i64 (m + 1 : Nat) ∧ Hid (∀ u, u < m → needB zs z.x tol u = false) ∧ Below w2.heap.size w2 wr) (fun i _ => 25 - (intOf i).toNat)
            case atStart => exact ⟨0, by omega, rfl, Lib.hid (fun m hm => absurd hm (by omega)), Below.refl _ _⟩
            case round =>
              obtain ⟨m, hm', rfl, Hno, hbr⟩ := hrel
              have hbz := hb02.trans (hbr.mono hb02.size)
              have hbA2 := hbw2.trans (hbr.mono hbw2.size)
              have q6 := keepC hbA2 w1.heap.size hzB
              have hw1 : ((m + 1 : Nat) : Int) = (m : Int) + 1 := by omega
              rw [hw1]
              by_cases hlt : m < 24
              · have hkj : (!(z.x.k == 1) || decide (m = 0)) = true := by first | (rw [hk]; rfl) | (rw [decide_eq_true (show m = 0 by omega)]; simp)
                have hk0 : z.x.k = 1 → m = 0 := by first | (intro _; omega) | (intro h; rw [h] at hk; cases hk)
                have zr : w1.heap.size < wr.heap.size := Nat.lt_of_lt_of_le hzB hbA2.size
                have hnj := Hnb.out m
                rw [hkj, Bool.true_and] at hnj
                have Hk0 := Lib.hid hk0; clear hk0
                have Hkj := Lib.hid hkj; clear hkj
                have Hk := Lib.hid hk; clear hk
                go_wp2_with fail
                have e1 : ∀ {w' : World}, Below wr.heap.size wr w' → (Below wr.heap.size wr w' ∧ (∀ x, w'.cell? ⟨w1.heap.size, x, none⟩ = wr.cell? ⟨w1.heap.size, x, none⟩)) := fun hb => ⟨hb, keepC hb _ zr⟩
                refine wp_region_held_drew (S := fun w' => Below wr.heap.size wr w' ∧ (∀ x, w'.cell? ⟨w1.heap.size, x, none⟩ = wr.cell? ⟨w1.heap.size, x, none⟩)) (by kernel_rfl) (e1 (Below.refl _ _).drew) (fun hHeld => ?_)
                (first
                  | (refine wpAnyH_take (i := 0) (v := ?_) rfl (by kernel_rfl) (by kernel_rfl) (by kernel_rfl) (fun _ _ _ h => h) (Or.inl ⟨by rfl, ?_⟩) (by assumption) ?_
                     rotate_left
                     focus (intro wq hSq; (try dsimp only at hSq); go_simp; (try (with_reducible rfl)); done))
                  | (refine wpAnyH_take (i := 0) (v := undef) rfl (by kernel_rfl) (by kernel_rfl) (by kernel_rfl) (fun _ _ _ h => h) (Or.inr ⟨by rfl, rfl⟩) (by assumption) ?_)
                  | fail "take 0")
                try simp only [Act.put, List.setIfInBounds_toArray, List.set_cons_zero, List.set_cons_succ, List.getElem_toArray, List.getElem_cons_zero]
                (first
                  | (refine wpAnyH_take (i := 1) (v := ?_) rfl (by kernel_rfl) (by kernel_rfl) (by kernel_rfl) (fun _ _ _ h => h) (Or.inl ⟨by rfl, ?_⟩) (by assumption) ?_
                     rotate_left
                     focus (intro wq hSq; (try dsimp only at hSq); go_simp; (try (with_reducible rfl)); done))
                  | (refine wpAnyH_take (i := 1) (v := undef) rfl (by kernel_rfl) (by kernel_rfl) (by kernel_rfl) (fun _ _ _ h => h) (Or.inr ⟨by rfl, rfl⟩) (by assumption) ?_)
                  | fail "take 1")
                try simp only [Act.put, List.setIfInBounds_toArray, List.set_cons_zero, List.set_cons_succ, List.getElem_toArray, List.getElem_cons_zero, List.getElem_cons_succ]
                (first
                  | (refine wpAnyH_take (i := 2) (v := ?_) rfl (by kernel_rfl) (by kernel_rfl) (by kernel_rfl) (fun _ _ _ h => h) (Or.inl ⟨by rfl, ?_⟩) (by assumption) ?_
                     rotate_left
                     focus (intro wq hSq; (try dsimp only at hSq); go_simp; (try (with_reducible rfl)); done))
                  | (refine wpAnyH_take (i := 2) (v := undef) rfl (by kernel_rfl) (by kernel_rfl) (by kernel_rfl) (fun _ _ _ h => h) (Or.inr ⟨by rfl, rfl⟩) (by assumption) ?_)
                  | fail "take 2")
                try simp only [Act.put, List.setIfInBounds_toArray, List.set_cons_zero, List.set_cons_succ, List.getElem_toArray, List.getElem_cons_zero, List.getElem_cons_succ]
                (first
                  | (refine wpAnyH_take (i := 3) (v := ?_) rfl (by kernel_rfl) (by kernel_rfl) (by kernel_rfl) (fun _ _ _ h => h) (Or.inl ⟨by rfl, ?_⟩) (by assumption) ?_
                     rotate_left
                     focus (intro wq hSq; (try dsimp only at hSq); go_simp; (try (with_reducible rfl)); done))
                  | (refine wpAnyH_take (i := 3) (v := undef) rfl (by kernel_rfl) (by kernel_rfl) (by kernel_rfl) (fun _ _ _ h => h) (Or.inr ⟨by rfl, rfl⟩) (by assumption) ?_)
                  | fail "take 3")
                try simp only [Act.put, List.setIfInBounds_toArray, List.set_cons_zero, List.set_cons_succ, List.getElem_toArray, List.getElem_cons_zero, List.getElem_cons_succ]
                (first
                  | (refine wpAnyH_take (i := 4) (v := ?_) rfl (by kernel_rfl) (by kernel_rfl) (by kernel_rfl) (fun _ _ _ h => h) (Or.inl ⟨by rfl, ?_⟩) (by assumption) ?_
                     rotate_left
                     focus (intro wq hSq; (try dsimp only at hSq); go_simp; (try (with_reducible rfl)); done))
                  | (refine wpAnyH_take (i := 4) (v := undef) rfl (by kernel_rfl) (by kernel_rfl) (by kernel_rfl) (fun _ _ _ h => h) (Or.inr ⟨by rfl, rfl⟩) (by assumption) ?_)
                  | fail "take 4")
                try simp only [Act.put, List.setIfInBounds_toArray, List.set_cons_zero, List.set_cons_succ, List.getElem_toArray, List.getElem_cons_zero, List.getElem_cons_succ]
                (first
                  | (refine wpAnyH_take (i := 5) (v := ?_) rfl (by kernel_rfl) (by kernel_rfl) (by kernel_rfl) (fun _ _ _ h => h) (Or.inl ⟨by rfl, ?_⟩) (by assumption) ?_
                     rotate_left
                     focus (intro wq hSq; (try dsimp only at hSq); go_simp; (try (with_reducible rfl)); done))
                  | (refine wpAnyH_take (i := 5) (v := undef) rfl (by kernel_rfl) (by kernel_rfl) (by kernel_rfl) (fun _ _ _ h => h) (Or.inr ⟨by rfl, rfl⟩) (by assumption) ?_)
                  | fail "take 5")
                try simp only [Act.put, List.setIfInBounds_toArray, List.set_cons_zero, List.set_cons_succ, List.getElem_toArray, List.getElem_cons_zero, List.getElem_cons_succ]
                (first
                  | (refine wpAnyH_take (i := 6) (v := ?_) rfl (by kernel_rfl) (by kernel_rfl) (by kernel_rfl) (fun _ _ _ h => h) (Or.inl ⟨by rfl, ?_⟩) (by assumption) ?_
                     rotate_left
                     focus (intro wq hSq; (try dsimp only at hSq); go_simp; (try (with_reducible rfl)); done))
                  | (refine wpAnyH_take (i := 6) (v := undef) rfl (by kernel_rfl) (by kernel_rfl) (by kernel_rfl) (fun _ _ _ h => h) (Or.inr ⟨by rfl, rfl⟩) (by assumption) ?_)
                  | fail "take 6")
                try simp only [Act.put, List.setIfInBounds_toArray, List.set_cons_zero, List.set_cons_succ, List.getElem_toArray, List.getElem_cons_zero, List.getElem_cons_succ]
                (first
                  | (refine wpAnyH_take (i := 8) (v := ?_) rfl (by kernel_rfl) (by kernel_rfl) (by kernel_rfl) (fun _ _ _ h => h) (Or.inl ⟨by rfl, ?_⟩) (by assumption) ?_
                     rotate_left
                     focus (intro wq hSq; (try dsimp only at hSq); go_simp; (try (with_reducible rfl)); done))
                  | (refine wpAnyH_take (i := 8) (v := undef) rfl (by kernel_rfl) (by kernel_rfl) (by kernel_rfl) (fun _ _ _ h => h) (Or.inr ⟨by rfl, rfl⟩) (by assumption) ?_)
                  | fail "take 8")
                try simp only [Act.put, List.setIfInBounds_toArray, List.set_cons_zero, List.set_cons_succ, List.getElem_toArray, List.getElem_cons_zero, List.getElem_cons_succ]
                refine wpAnyH_ready (rs := [7]) (by kernel_rfl) (by simp) ?_
                refine AllReadyH.cons (o := _) rfl (fun K hK => ?_) AllReadyH.nil
                go_simp
                refine (observed_c z.A z.n z.c z.x _ ((hzo.next hbz).next (Below.refl _ _).drew).sl hzo.hn hzo.hl hzo.hs (oneC z.x.cs) (j : Int) (m + 1) hvx (by omega) (by omega) (by omega)).mono ?_; rintro e w3 ⟨v3, rfl, hoS, hb3⟩; obtain ⟨AS, cS, rfl⟩ := own_slice hoS; have hb13 := (Below.refl wr.heap.size wr).drew.trans hb3
                refine hK.out _ _ ?_ (fun hHeld => ?_)
                · exact e1 hb13
                clear hK K
                try simp only [Act.put, List.setIfInBounds_toArray, List.set_cons_zero, List.set_cons_succ, List.getElem_toArray, List.getElem_cons_zero, List.getElem_cons_succ]
                refine wpAnyH_ready (rs := [9]) (by kernel_rfl) (by simp) ?_
                refine AllReadyH.cons (o := _) rfl (fun K hK => ?_) AllReadyH.nil
                go_simp
                refine (identify_c (some ⟨b, off, none⟩) n c zs AS (m + 1) cS _ tol _ ((h.next hbz).next hb13) Hvz.out h64 (Sl.of_own hoS) (Hobs.out _ (by omega) Hk0.out) t0 (by omega)).mono ?_; rintro e w4 ⟨v4, rfl, hov, hb4⟩; obtain ⟨A5, c5, rfl⟩ := own_slice hov; have hb14 := hb13.trans (hb4.mono hb13.size)
                refine hK.out _ _ ?_ (fun hHeld => ?_)
                · exact e1 hb14
                clear hK K
                try simp only [Act.put, List.setIfInBounds_toArray, List.set_cons_zero, List.set_cons_succ, List.getElem_toArray, List.getElem_cons_zero, List.getElem_cons_succ]
                (first
                  | (refine wpAnyH_take (i := 10) (v := ?_) rfl (by kernel_rfl) (by kernel_rfl) (by kernel_rfl) (fun _ _ _ h => h) (Or.inl ⟨by rfl, ?_⟩) (by assumption) ?_
                     rotate_left
                     focus (intro wq hSq; (try dsimp only at hSq); go_simp; (try (with_reducible rfl)); done))
                  | (refine wpAnyH_take (i := 10) (v := undef) rfl (by kernel_rfl) (by kernel_rfl) (by kernel_rfl) (fun _ _ _ h => h) (Or.inr ⟨by rfl, rfl⟩) (by assumption) ?_)
                  | fail "take 10")
                try simp only [Act.put, List.setIfInBounds_toArray, List.set_cons_zero, List.set_cons_succ, List.getElem_toArray, List.getElem_cons_zero, List.getElem_cons_succ]
                (first
                  | (refine wpAnyH_take (i := 11) (v := ?_) rfl (by kernel_rfl) (by kernel_rfl) (by kernel_rfl) (fun _ _ _ h => h) (Or.inl ⟨by rfl, ?_⟩) (by assumption) ?_
                     rotate_left
                     focus (intro wq hSq; (try dsimp only at hSq); go_simp; (try (with_reducible rfl)); done))
                  | (refine wpAnyH_take (i := 11) (v := undef) rfl (by kernel_rfl) (by kernel_rfl) (by kernel_rfl) (fun _ _ _ h => h) (Or.inr ⟨by rfl, rfl⟩) (by assumption) ?_)
                  | fail "take 11")
                try simp only [Act.put, List.setIfInBounds_toArray, List.set_cons_zero, List.set_cons_succ, List.getElem_toArray, List.getElem_cons_zero, List.getElem_cons_succ]
                refine wpAnyH_done (by kernel_rfl) ?_ _
                clear hov hoS hHeld e1 hb3 hb4 hb13
                have hbz4 := hbz.trans (hb14.mono hbz.size)
                have hbr4 := hbr.trans (hb14.mono hbr.size)
                generalize (hitsN zs (seeL (phasesL z.x (oneC z.x.cs)) _ (m + 1)) tol n).length = M at hnj ⊢
                by_cases hM1 : M = 1
                · rw [decide_eq_true hM1] at hnj
                  have hV := HN1.out m (by omega) Hno.out hnj
                  subst hM1
                  have Hnj := Lib.hid hnj; clear hnj
                  have HV := Lib.hid hV; clear hV
                  go_wp2_with fail
                  go_ret2
                  exact ⟨by simp [pnV, pnK, HC.out, HI.out, HV.out], hbz4⟩
                · rw [decide_eq_false hM1] at hnj
                  have hM2 : ((M : Int) == 1) = false := by simpa using (show ¬ ((M : Int) = 1) by omega)
                  have Hnj := Lib.hid hnj; clear hnj
                  have HM1 := Lib.hid hM1; clear hM1
                  go_wp2_with fail
                  go_roundw
                  case rel => exact ⟨m + 1, by omega, by go_num, Lib.hid (all_no Hno.out Hnj.out), hbr4⟩
                  case measure => simp [intOf]; omega
              · obtain rfl : m = 24 := by omega
                have hV : needI zs z.x tol = -1 := by first | exact HN3.out (by simpa using hk) (Hno.out 0 (by omega)) | exact HN2.out Hno.out
                have HV := Lib.hid hV; clear hV
                have Hk := Lib.hid hk; clear hk
                go_wp2_with fail
                go_ret2
                exact ⟨by simp [pnV, pnK, HC.out, HI.out, HV.out], hbz⟩
          · go_wp2_with fail
            go_loopw [11] (fun i wr => ∃ m : Nat, m ≤ 1 ∧ i = .int .i64 (m + 1 : Nat) ∧ Hid (∀ u, u < m → needB zs z.x tol u = false) ∧ Below w2.heap.size w2 wr) (fun i _ => 25 - (intOf i).toNat)
            case atStart => exact ⟨0, by omega, rfl, Lib.hid (fun m hm => absurd hm (by omega)), Below.refl _ _⟩
            case round =>
              obtain ⟨m, hm', rfl, Hno, hbr⟩ := hrel
              have hbz := hb02.trans (hbr.mono hb02.size)
              have hbA2 := hbw2.trans (hbr.mono hbw2.size)
              have q6 := keepC hbA2 w1.heap.size hzB
              have hw1 : ((m + 1 : Nat) : Int) = (m : Int) + 1 := by omega
              rw [hw1]
              by_cases hlt : m < 1
              · have hkj : (!(z.x.k == 1) || decide (m = 0)) = true := by first | (rw [hk]; rfl) | (rw [decide_eq_true (show m = 0 by omega)]; simp)
                have hk0 : z.x.k = 1 → m = 0 := by first | (intro _; omega) | (intro h; rw [h] at hk; cases hk)
                have zr : w1.heap.size < wr.heap.size := Nat.lt_of_lt_of_le hzB hbA2.size
                have hnj := Hnb.out m
                rw [hkj, Bool.true_and] at hnj
                have Hk0 := Lib.hid hk0; clear hk0
                have Hkj := Lib.hid hkj; clear hkj
                have Hk := Lib.hid hk; clear hk
                go_wp2_with fail
                have e1 : ∀ {w' : World}, Below wr.heap.size wr w' → (Below wr.heap.size wr w' ∧ (∀ x, w'.cell? ⟨w1.heap.size, x, none⟩ = wr.cell? ⟨w1.heap.size, x, none⟩)) := fun hb => ⟨hb, keepC hb _ zr⟩
                refine wp_region_held_drew (S := fun w' => Below wr.heap.size wr w' ∧ (∀ x, w'.cell? ⟨w1.heap.size, x, none⟩ = wr.cell? ⟨w1.heap.size, x, none⟩)) (by kernel_rfl) (e1 (Below.refl _ _).drew) (fun hHeld => ?_)
                (first
                  | (refine wpAnyH_take (i := 0) (v := ?_) rfl (by kernel_rfl) (by kernel_rfl) (by kernel_rfl) (fun _ _ _ h => h) (Or.inl ⟨by rfl, ?_⟩) (by assumption) ?_
                     rotate_left
                     focus (intro wq hSq; (try dsimp only at hSq); go_simp; (try (with_reducible rfl)); done))
                  | (refine wpAnyH_take (i := 0) (v := undef) rfl (by kernel_rfl) (by kernel_rfl) (by kernel_rfl) (fun _ _ _ h => h) (Or.inr ⟨by rfl, rfl⟩) (by assumption) ?_)
                  | fail "take 0")
                try simp only [Act.put, List.setIfInBounds_toArray, List.set_cons_zero, List.set_cons_succ, List.getElem_toArray, List.getElem_cons_zero]
                (first
                  | (refine wpAnyH_take (i := 1) (v := ?_) rfl (by kernel_rfl) (by kernel_rfl) (by kernel_rfl) (fun _ _ _ h => h) (Or.inl ⟨by rfl, ?_⟩) (by assumption) ?_
                     rotate_left
                     focus (intro wq hSq; (try dsimp only at hSq); go_simp; (try (with_reducible rfl)); done))
                  | (refine wpAnyH_take (i := 1) (v := undef) rfl (by kernel_rfl) (by kernel_rfl) (by kernel_rfl) (fun _ _ _ h => h) (Or.inr ⟨by rfl, rfl⟩) (by assumption) ?_)
                  | fail "take 1")
                try simp only [Act.put, List.setIfInBounds_toArray, List.set_cons_zero, List.set_cons_succ, List.getElem_toArray, List.getElem_cons_zero, List.getElem_cons_succ]
                (first
                  | (refine wpAnyH_take (i := 2) (v := ?_) rfl (by kernel_rfl) (by kernel_rfl) (by kernel_rfl) (fun _ _ _ h => h) (Or.inl ⟨by rfl, ?_⟩) (by assumption) ?_
                     rotate_left
                     focus (intro wq hSq; (try dsimp only at hSq); go_simp; (try (with_reducible rfl)); done))
                  | (refine wpAnyH_take (i := 2) (v := undef) rfl (by kernel_rfl) (by kernel_rfl) (by kernel_rfl) (fun _ _ _ h => h) (Or.inr ⟨by rfl, rfl⟩) (by assumption) ?_)
                  | fail "take 2")
                try simp only [Act.put, List.setIfInBounds_toArray, List.set_cons_zero, List.set_cons_succ, List.getElem_toArray, List.getElem_cons_zero, List.getElem_cons_succ]
                (first
                  | (refine wpAnyH_take (i := 3) (v := ?_) rfl (by kernel_rfl) (by kernel_rfl) (by kernel_rfl) (fun _ _ _ h => h) (Or.inl ⟨by rfl, ?_⟩) (by assumption) ?_
                     rotate_left
                     focus (intro wq hSq; (try dsimp only at hSq); go_simp; (try (with_reducible rfl)); done))
                  | (refine wpAnyH_take (i := 3) (v := undef) rfl (by kernel_rfl) (by kernel_rfl) (by kernel_rfl) (fun _ _ _ h => h) (Or.inr ⟨by rfl, rfl⟩) (by assumption) ?_)
                  | fail "take 3")
                try simp only [Act.put, List.setIfInBounds_toArray, List.set_cons_zero, List.set_cons_succ, List.getElem_toArray, List.getElem_cons_zero, List.getElem_cons_succ]
                (first
                  | (refine wpAnyH_take (i := 4) (v := ?_) rfl (by kernel_rfl) (by kernel_rfl) (by kernel_rfl) (fun _ _ _ h => h) (Or.inl ⟨by rfl, ?_⟩) (by assumption) ?_
                     rotate_left
                     focus (intro wq hSq; (try dsimp only at hSq); go_simp; (try (with_reducible rfl)); done))
                  | (refine wpAnyH_take (i := 4) (v := undef) rfl (by kernel_rfl) (by kernel_rfl) (by kernel_rfl) (fun _ _ _ h => h) (Or.inr ⟨by rfl, rfl⟩) (by assumption) ?_)
                  | fail "take 4")
                try simp only [Act.put, List.setIfInBounds_toArray, List.set_cons_zero, List.set_cons_succ, List.getElem_toArray, List.getElem_cons_zero, List.getElem_cons_succ]
                (first
                  | (refine wpAnyH_take (i := 5) (v := ?_) rfl (by kernel_rfl) (by kernel_rfl) (by kernel_rfl) (fun _ _ _ h => h) (Or.inl ⟨by rfl, ?_⟩) (by assumption) ?_
                     rotate_left
                     focus (intro wq hSq; (try dsimp only at hSq); go_simp; (try (with_reducible rfl)); done))
                  | (refine wpAnyH_take (i := 5) (v := undef) rfl (by kernel_rfl) (by kernel_rfl) (by kernel_rfl) (fun _ _ _ h => h) (Or.inr ⟨by rfl, rfl⟩) (by assumption) ?_)
                  | fail "take 5")
                try simp only [Act.put, List.setIfInBounds_toArray, List.set_cons_zero, List.set_cons_succ, List.getElem_toArray, List.getElem_cons_zero, List.getElem_cons_succ]
                (first
                  | (refine wpAnyH_take (i := 6) (v := ?_) rfl (by kernel_rfl) (by kernel_rfl) (by kernel_rfl) (fun _ _ _ h => h) (Or.inl ⟨by rfl, ?_⟩) (by assumption) ?_
                     rotate_left
                     focus (intro wq hSq; (try dsimp only at hSq); go_simp; (try (with_reducible rfl)); done))
                  | (refine wpAnyH_take (i := 6) (v := undef) rfl (by kernel_rfl) (by kernel_rfl) (by kernel_rfl) (fun _ _ _ h => h) (Or.inr ⟨by rfl, rfl⟩) (by assumption) ?_)
                  | fail "take 6")
                try simp only [Act.put, List.setIfInBounds_toArray, List.set_cons_zero, List.set_cons_succ, List.getElem_toArray, List.getElem_cons_zero, List.getElem_cons_succ]
                (first
                  | (refine wpAnyH_take (i := 8) (v := ?_) rfl (by kernel_rfl) (by kernel_rfl) (by kernel_rfl) (fun _ _ _ h => h) (Or.inl ⟨by rfl, ?_⟩) (by assumption) ?_
                     rotate_left
                     focus (intro wq hSq; (try dsimp only at hSq); go_simp; (try (with_reducible rfl)); done))
                  | (refine wpAnyH_take (i := 8) (v := undef) rfl (by kernel_rfl) (by kernel_rfl) (by kernel_rfl) (fun _ _ _ h => h) (Or.inr ⟨by rfl, rfl⟩) (by assumption) ?_)
                  | fail "take 8")
                try simp only [Act.put, List.setIfInBounds_toArray, List.set_cons_zero, List.set_cons_succ, List.getElem_toArray, List.getElem_cons_zero, List.getElem_cons_succ]
                refine wpAnyH_ready (rs := [7]) (by kernel_rfl) (by simp) ?_
                refine AllReadyH.cons (o := _) rfl (fun K hK => ?_) AllReadyH.nil
                go_simp
                refine (observed_c z.A z.n z.c z.x _ ((hzo.next hbz).next (Below.refl _ _).drew).sl hzo.hn hzo.hl hzo.hs (oneC z.x.cs) (j : Int) (m + 1) hvx (by omega) (by omega) (by omega)).mono ?_; rintro e w3 ⟨v3, rfl, hoS, hb3⟩; obtain ⟨AS, cS, rfl⟩ := own_slice hoS; have hb13 := (Below.refl wr.heap.size wr).drew.trans hb3
                refine hK.out _ _ ?_ (fun hHeld => ?_)
                · exact e1 hb13
                clear hK K
                try simp only [Act.put, List.setIfInBounds_toArray, List.set_cons_zero, List.set_cons_succ, List.getElem_toArray, List.getElem_cons_zero, List.getElem_cons_succ]
                refine wpAnyH_ready (rs := [9]) (by kernel_rfl) (by simp) ?_
                refine AllReadyH.cons (o := _) rfl (fun K hK => ?_) AllReadyH.nil
                go_simp
                refine (identify_c (some ⟨b, off, none⟩) n c zs AS (m + 1) cS _ tol _ ((h.next hbz).next hb13) Hvz.out h64 (Sl.of_own hoS) (Hobs.out _ (by omega) Hk0.out) t0 (by omega)).mono ?_; rintro e w4 ⟨v4, rfl, hov, hb4⟩; obtain ⟨A5, c5, rfl⟩ := own_slice hov; have hb14 := hb13.trans (hb4.mono hb13.size)
                refine hK.out _ _ ?_ (fun hHeld => ?_)
                · exact e1 hb14
                clear hK K
                try simp only [Act.put, List.setIfInBounds_toArray, List.set_cons_zero, List.set_cons_succ, List.getElem_toArray, List.getElem_cons_zero, List.getElem_cons_succ]
                (first
                  | (refine wpAnyH_take (i := 10) (v := ?_) rfl (by kernel_rfl) (by kernel_rfl) (by kernel_rfl) (fun _ _ _ h => h) (Or.inl ⟨by rfl, ?_⟩) (by assumption) ?_
                     rotate_left
                     focus (intro wq hSq; (try dsimp only at hSq); go_simp; (try (with_reducible rfl)); done))
                  | (refine wpAnyH_take (i := 10) (v := undef) rfl (by kernel_rfl) (by kernel_rfl) (by kernel_rfl) (fun _ _ _ h => h) (Or.inr ⟨by rfl, rfl⟩) (by assumption) ?_)
                  | fail "take 10")
                try simp only [Act.put, List.setIfInBounds_toArray, List.set_cons_zero, List.set_cons_succ, List.getElem_toArray, List.getElem_cons_zero, List.getElem_cons_succ]
                (first
                  | (refine wpAnyH_take (i := 11) (v := ?_) rfl (by kernel_rfl) (by kernel_rfl) (by kernel_rfl) (fun _ _ _ h => h) (Or.inl ⟨by rfl, ?_⟩) (by assumption) ?_
                     rotate_left
                     focus (intro wq hSq; (try dsimp only at hSq); go_simp; (try (with_reducible rfl)); done))
                  | (refine wpAnyH_take (i := 11) (v := undef) rfl (by kernel_rfl) (by kernel_rfl) (by kernel_rfl) (fun _ _ _ h => h) (Or.inr ⟨by rfl, rfl⟩) (by assumption) ?_)
                  | fail "take 11")
                try simp only [Act.put, List.setIfInBounds_toArray, List.set_cons_zero, List.set_cons_succ, List.getElem_toArray, List.getElem_cons_zero, List.getElem_cons_succ]
                refine wpAnyH_done (by kernel_rfl) ?_ _
                clear hov hoS hHeld e1 hb3 hb4 hb13
                have hbz4 := hbz.trans (hb14.mono hbz.size)
                have hbr4 := hbr.trans (hb14.mono hbr.size)
                generalize (hitsN zs (seeL (phasesL z.x (oneC z.x.cs)) _ (m + 1)) tol n).length = M at hnj ⊢
                by_cases hM1 : M = 1
                · rw [decide_eq_true hM1] at hnj
                  have hV := HN1.out m (by omega) Hno.out hnj
                  subst hM1
                  have Hnj := Lib.hid hnj; clear hnj
                  have HV := Lib.hid hV; clear hV
                  go_wp2_with fail
                  go_ret2
                  exact ⟨by simp [pnV, pnK, HC.out, HI.out, HV.out], hbz4⟩
                · rw [decide_eq_false hM1] at hnj
                  have hM2 : ((M : Int) == 1) = false := by simpa using (show ¬ ((M : Int) = 1) by omega)
                  have Hnj := Lib.hid hnj; clear hnj
                  have HM1 := Lib.hid hM1; clear hM1
                  go_wp2_with fail
                  go_roundw
                  case rel => exact ⟨m + 1, by omega, by go_num, Lib.hid (all_no Hno.out Hnj.out), hbr4⟩
                  case measure => simp [intOf]; omega
              · obtain rfl : m = 1 := by omega
                have hV : needI zs z.x tol = -1 := by first | exact HN3.out (by simpa using hk) (Hno.out 0 (by omega)) | exact HN2.out Hno.out
                have HV := Lib.hid hV; clear hV
                have Hk := Lib.hid hk; clear hk
                go_wp2_with fail
                go_ret2
                exact ⟨by simp [pnV, pnK, HC.out, HI.out, HV.out], hbz⟩
  · have hC : pnC zs k tol = 2 := by
      rw [pnC, hv, Hl.out]
      have : (decide (0 ≤ k) && decide (k < n)) = false := by simp; omega
      rw [this]; rfl
    have hi1 : (decide ((0 : Int) ≤ k) && decide (k < (n : Int))) = false := by simp; omega
    have HC := Lib.hid hC; clear hC
    go_enter Try.func26, Try.ntmps26
    go_wp2_with fail
    refine (areCharacters_c A n c zs _ h hm).mono ?_
    rw [hv]
    rintro e w1 ⟨rfl, hb1⟩
    go_wp2_with ((go_at_call 77; refine (at_c _ _ _).mono ?_; rw [hi1]; rintro e w3 ⟨rfl, rfl⟩))
    go_ret2
    exact ⟨by simp [pnV, pnK, HC.out], hb1⟩
end Go.Proofs.Ytgfplmfdgbklkaa
