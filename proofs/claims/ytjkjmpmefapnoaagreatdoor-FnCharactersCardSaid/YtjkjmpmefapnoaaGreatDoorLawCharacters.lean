
/- The walk of the law FnCharacters. -/
import Derived.Test.YtjkjmpmefapnoaaGreatDoorRdG
import Derived.Test.YtjkjmpmefapnoaaGreatDoorFlG
import Derived.Test.YtjkjmpmefapnoaaGreatDoorChOf
import Derived.Test.YtjkjmpmefapnoaaGreatDoorDrG
namespace Go.Proofs.YtjkjmpmefapnoaaGreatDoor
open Go.RowKit
set_option maxRecDepth 100000 in
set_option maxHeartbeats 12000000 in
theorem lawCharacters_c (A : Option Addr) (n c : Nat) (bs : List Int) (w : World) (hx : Sl w w.heap.size 1 A n (bs.flatMap u8C)) (hb : ∀ x ∈ bs, 0 ≤ x ∧ x ≤ 255) (hn : n ≤ maxLen) (hE : Env w) :
    Calls Tryz.prog 4 #[.slice A n c] w fun e w' => e = .returned (.bool true) ∧ Below w.heap.size w w' := by
  by_cases hq : 1048576 < n
  · have hq' : (1048576 : Int) < (n : Int) := by omega
    go_enter Tryz.func4, Tryz.ntmps4
    go_wp2_with fail
    go_ret
    exact ⟨rfl, Below.refl _ _⟩
  have hq' : ¬ (1048576 : Int) < (n : Int) := by omega
  have hC1 := r8Char_c A n c bs w hx hb hn
  have HC1 := Lib.hid hC1; clear hC1
  have HE := Lib.hid hE; clear hE
  clear hx hb hn hq
  go_enter Tryz.func4, Tryz.ntmps4
  go_wp2_with fail
  refine HC1.out.mono ?_
  rintro e w1 ⟨z, rfl, hzv, hzo, hb1⟩
  have hsh := shape_sizes (valid_shape hzv)
  have zn : z.n ≤ 1048576 := by show z.x.gs.length ≤ 1048576; omega
  have zl : z.x.l.size ≤ 1048576 := by omega
  have zc : z.x.cs.size ≤ 1048576 := by omega
  have zcM : z.x.cs.size ≤ maxLen := by unfold maxLen; omega
  have hcb := chp_box (c := z.c) 29 (Sl.of_own hzo) zn zl zc
  have hbx : Below w1.heap.size w1 (w1.alloc (.cells #[.int .i64 z.x.k, .slice z.A z.n z.c, .string z.x.l, .string z.x.cs, .int .i64 z.x.p] 29)) := by (repeat (first | (with_reducible assumption) | (with_reducible exact Below.refl _ _) | exact Nat.le_refl _ | exact Below.size (by with_reducible assumption) | (with_reducible refine Below.drew ?_) | (with_reducible refine below_drewN ?_ _) | (with_reducible refine Below.alloc ?_ ?_ _) | (with_reducible refine Below.setCell ?_ ?_ _) | (with_reducible refine le_alloc ?_ _) | (with_reducible refine le_set ?_ _ _) | (with_reducible refine le_drew ?_) | (with_reducible refine le_drewN ?_ _) | omega | (dsimp only; omega)))
  have hb4 := hb1.trans (hbx.mono hb1.size)
  obtain ⟨b3, hb3⟩ : ∃ b, w1.heap.size = b := ⟨_, rfl⟩
  clear hsh hzo hb1 hbx HC1 hq'
  go_wp2_with fail
  rw [hb3] at hcb
  try rw [hb3]
  generalize w1.alloc (.cells #[.int .i64 z.x.k, .slice z.A z.n z.c, .string z.x.l, .string z.x.cs, .int .i64 z.x.p] 29) = w4 at *
  clear hb3
  as_aux_lemma =>
    have slz := hcb.sl
    have hEn : ∀ w1, Below w4.heap.size w4 w1 → Env w1 := fun w1 hbb => HE.out.next (hb4.trans (hbb.mono hb4.size))
    have hTx : ∀ w1, Below w4.heap.size w4 w1 → Calls Tryz.prog 17 #[chV z.x.k z.A z.n z.c z.x.l z.x.cs z.x.p] w1 fun e w' => e = .returned (.string (charT z.x)) ∧ Below w1.heap.size w1 w' := fun w1 hbb => by
      have := implText_c z.A z.n z.c z.x w1 (slz.next hbb) zn zl zc (hEn w1 hbb).tab
      rwa [charX, if_pos hzv] at this
    have hRd : ∀ w1, Below w4.heap.size w4 w1 → Calls Tryz.prog 16 #[.string (charT z.x)] w1 fun e w' => ∃ A c, e = .returned (.tuple #[chV z.x.k A z.n c z.x.l z.x.cs z.x.p, .bool true]) ∧ Sl w' w'.heap.size 1 A z.n (z.x.gs.flatMap intC) ∧ Below w1.heap.size w1 w' := fun w1 hbb => by
      refine (readCharacter_c z.x w1 hzv (hEn w1 hbb)).mono ?_
      rintro e w' ⟨A, c, rfl, ho, hb⟩
      exact ⟨A, c, rfl, Sl.of_own ho, hb⟩
    obtain ⟨hco, hph⟩ := first_col hzv
    have hcs0 : ¬ z.x.cs.size = 0 := by have := (colors_one hzv).1; omega
    have hcs1 : (1 : Int) ≤ (z.x.cs.size : Int) := by have := (colors_one hzv).1; omega
    obtain ⟨co, hcoe⟩ : ∃ co, z.x.cs.extract 0 1 = co := ⟨_, rfl⟩
    rw [hcoe] at hco hph
    have hcoz : co.size ≤ maxLen := by
      rw [← hcoe, ByteArray.size_extract]; unfold maxLen; omega
    have hPh : ∀ w1, Below w4.heap.size w4 w1 → Calls Tryz.prog 19 #[chV z.x.k z.A z.n z.c z.x.l z.x.cs z.x.p, .string co] w1 (PhPost w1 (phasesL z.x co, 0)) := fun w1 hbb => hph ▸ implPhasesOf_c z.A z.n z.c z.x w1 (slz.next hbb) zn zl zc co hcoz
    have hLt : ∀ w1, Below w4.heap.size w4 w1 → Calls Tryz.prog 20 #[chV z.x.k z.A z.n z.c z.x.l z.x.cs z.x.p] w1 fun e w' => e = .returned (.tuple #[.int .i64 (litI (phasesL z.x co)), .int .i64 0]) ∧ Below w1.heap.size w1 w' := fun w1 hbb => by
      have := implLit_c z.A z.n z.c z.x w1 (slz.next hbb) zn zl zc
      rwa [hzv, litI_co z.x ⟨#[87]⟩ co (by rw [hco, wS_E])] at this
    have hCn : ∀ w1, Below w4.heap.size w4 w1 → Calls Tryz.prog 21 #[chV z.x.k z.A z.n z.c z.x.l z.x.cs z.x.p] w1 fun e w' => e = .returned (.tuple #[.int .i64 (cntI z.x), .int .i64 0]) ∧ Below w1.heap.size w1 w' := fun w1 hbb => by
      have := implCount_c z.A z.n z.c z.x w1 (slz.next hbb) zn zl zc
      rwa [hzv] at this
    have hLe : ∀ w1, Below w4.heap.size w4 w1 → Calls Tryz.prog 22 #[chV z.x.k z.A z.n z.c z.x.l z.x.cs z.x.p] w1 fun e w' => e = .returned (.tuple #[.int .i64 (leastI z.x), .int .i64 0]) ∧ Below w1.heap.size w1 w' := fun w1 hbb => by
      have := implLeast_c z.A z.n z.c z.x w1 (slz.next hbb) zn zl zc
      rwa [valid_shape hzv] at this
    have hpp := phases_pos (co := co) hzv
    have hpl := fun (j : Nat) (p : Ph) (h : (phasesL z.x co)[j]? = some p) => ph_lit hco h
    have hN1 := (phases_len (co := co) (valid_shape hzv)).1
    have hN2 := phases_len40 (co := co) (valid_shape hzv)
    have hlp := least_period hzv
    have htp := tot_period hzv co
    have hcp := cnt_phases hzv co
    have htb := tot_bd (phases_bd (co := co) hzv)
    obtain ⟨ps, hps⟩ : ∃ ps, phasesL z.x co = ps := ⟨_, rfl⟩
    obtain ⟨oc, hoc⟩ : ∃ oc, ocB z.x = oc := ⟨_, rfl⟩
    have hk2 : (z.x.k == 2) = oc := hoc
    rw [hps] at hPh hLt hpp hpl hN1 hN2 htp hcp htb
    rw [hoc] at hpl
    obtain ⟨N, hN⟩ : ∃ N, ps.length = N := ⟨_, rfl⟩
    rw [hN] at hN1 hN2 hcp htb
    have hPh : ∀ w1, Below w4.heap.size w4 w1 → Calls Tryz.prog 19 #[chV z.x.k z.A z.n z.c z.x.l z.x.cs z.x.p, .string co] w1 fun e w' => ∃ A c, e = .returned (.tuple #[.slice A N c, .int .i64 0]) ∧ Sl w' w'.heap.size 2 A N (ps.flatMap Ph.cells) ∧ Below w1.heap.size w1 w' := fun w1 hbb => by
      refine (hPh w1 hbb).mono ?_
      rintro e w' ⟨v, rfl, ho, hb⟩
      obtain ⟨A9, c9, rfl⟩ := own_slice ho
      subst hN
      exact ⟨A9, c9, rfl, Sl.of_own ho, hb⟩
    obtain ⟨LI, hLI⟩ : ∃ LI, litI ps = LI := ⟨_, rfl⟩
    obtain ⟨TI, hTI⟩ : ∃ TI, totI ps = TI := ⟨_, rfl⟩
    obtain ⟨CI, hCI⟩ : ∃ CI, cntI z.x = CI := ⟨_, rfl⟩
    obtain ⟨LE, hLE⟩ : ∃ LE, leastI z.x = LE := ⟨_, rfl⟩
    obtain ⟨TX, hTX⟩ : ∃ TX, charT z.x = TX := ⟨_, rfl⟩
    rw [hLI] at hLt
    rw [hTI] at htp htb
    rw [hCI] at hCn hcp
    rw [hLE] at hLe hlp
    rw [hTX] at hTx hRd
    have hSm : ∀ (A : Option Addr) (c : Nat) w1, Below w4.heap.size w4 w1 → Sl w1 w1.heap.size 1 A z.n (z.x.gs.flatMap intC) → Calls Tryz.prog 18 #[chV z.x.k A z.n c z.x.l z.x.cs z.x.p, chV z.x.k z.A z.n z.c z.x.l z.x.cs z.x.p] w1 fun e w' => e = .returned (.bool true) ∧ Below w1.heap.size w1 w' := fun A c w1 hbb sl => specAlike_c A z.A c z.c z.n z.x w1 sl (slz.next hbb) zn zl zc
    clear hzv hEn hoc hps hTX hLE hCI hph hcoz slz zcM
    have HTx := Lib.hid hTx; clear hTx
    have HRd := Lib.hid hRd; clear hRd
    have HPh := Lib.hid hPh; clear hPh
    have HLt := Lib.hid hLt; clear hLt
    have HCn := Lib.hid hCn; clear hCn
    have HLe := Lib.hid hLe; clear hLe
    have HSm := Lib.hid hSm; clear hSm
    have Hpp := Lib.hid hpp; clear hpp
    have Hpl := Lib.hid hpl; clear hpl
    have HN := Lib.hid hN; clear hN
    have HLI := Lib.hid hLI; clear hLI
    have HTI := Lib.hid hTI; clear hTI
    have Hcp := Lib.hid hcp; clear hcp
    have Htp := Lib.hid htp; clear htp
    have hbw4 := Below.refl w4.heap.size w4
    obtain ⟨c0, c1, c2, c3, c4, hz4, sl4, _, _, _⟩ := id hcb
    simp only [Nat.zero_add] at c0 c1 c2 c3 c4
    go_wp2_with fail
    refine (HTx.out _ hbw4).mono ?_
    rintro e w5 ⟨rfl, hb5⟩
    have hbw5 := hbw4.trans (hb5.mono hbw4.size)
    clear c0 c1 c2 c3 c4
    obtain ⟨c0, c1, c2, c3, c4, hz5, sl5, _, _, _⟩ := hcb.next hbw5
    simp only [Nat.zero_add] at c0 c1 c2 c3 c4
    go_wp2_with fail
    refine (HRd.out _ hbw5).mono ?_
    rintro e w6 ⟨A6, c6, rfl, sl6r, hb6⟩
    have hbw6 := hbw5.trans (hb6.mono hbw5.size)
    have hcr := chp_box (c := c6) 29 sl6r zn zl zc
    have hbx : Below w6.heap.size w6 (w6.alloc (.cells #[.int .i64 z.x.k, .slice A6 z.n c6, .string z.x.l, .string z.x.cs, .int .i64 z.x.p] 29)) := by (repeat (first | (with_reducible assumption) | (with_reducible exact Below.refl _ _) | exact Nat.le_refl _ | exact Below.size (by with_reducible assumption) | (with_reducible refine Below.drew ?_) | (with_reducible refine below_drewN ?_ _) | (with_reducible refine Below.alloc ?_ ?_ _) | (with_reducible refine Below.setCell ?_ ?_ _) | (with_reducible refine le_alloc ?_ _) | (with_reducible refine le_set ?_ _ _) | (with_reducible refine le_drew ?_) | (with_reducible refine le_drewN ?_ _) | omega | (dsimp only; omega)))
    have hbw7 := hbw6.trans (hbx.mono hbw6.size)
    clear c0 c1 c2 c3 c4
    obtain ⟨c0, c1, c2, c3, c4, hz6, sl6, _, _, _⟩ := hcb.next hbw6
    simp only [Nat.zero_add] at c0 c1 c2 c3 c4
    have hX1 : ¬ b3 = w6.heap.size := by omega
    have hX2 : ¬ w6.heap.size = b3 := by omega
    clear hbx hb6 sl6r hbw5 hb5
    go_wp2_with fail
    obtain ⟨b4, hb4'⟩ : ∃ b, w6.heap.size = b := ⟨_, rfl⟩
    rw [hb4'] at hcr
    try rw [hb4']
    clear hX1 hX2 hz6
    generalize w6.alloc (.cells #[.int .i64 z.x.k, .slice A6 z.n c6, .string z.x.l, .string z.x.cs, .int .i64 z.x.p] 29) = w7 at *
    clear hb4' hbw6
    clear c0 c1 c2 c3 c4
    obtain ⟨c0, c1, c2, c3, c4, hz7, sl7, _, _, _⟩ := hcb.next hbw7
    simp only [Nat.zero_add] at c0 c1 c2 c3 c4
    have sl7r := hcr.sl
    refine (HSm.out A6 c6 _ hbw7 sl7r).mono ?_
    rintro e w8 ⟨rfl, hb8⟩
    have hbw8 := hbw7.trans (hb8.mono hbw7.size)
    clear sl7r hcr hb8 HSm
    clear c0 c1 c2 c3 c4
    obtain ⟨c0, c1, c2, c3, c4, hz8, sl8, _, _, _⟩ := hcb.next hbw8
    simp only [Nat.zero_add] at c0 c1 c2 c3 c4
    go_wp2_with fail
    have e8 : ∀ {w' : World}, Below w8.heap.size w8 w' → (Below w8.heap.size w8 w' ∧ ∀ i, w'.cell? ⟨b3, i, none⟩ = w8.cell? ⟨b3, i, none⟩) := fun hbb => ⟨hbb, keepC hbb _ hz8⟩
    refine wp_region_held_drew (S := fun w' => Below w8.heap.size w8 w' ∧ ∀ i, w'.cell? ⟨b3, i, none⟩ = w8.cell? ⟨b3, i, none⟩) (by kernel_rfl) (e8 (Below.refl _ _).drew) (fun hHeld => ?_)
    (first
      | (refine wpAnyH_take (i := 0) (v := ?_) rfl (by kernel_rfl) (by kernel_rfl) (by kernel_rfl) (fun _ _ _ h => h) (Or.inl ⟨by rfl, ?_⟩) (by assumption) ?_
         rotate_left
         focus (intro wq hSq; (try dsimp only at hSq); go_simp; (try (with_reducible rfl)); done))
      | (refine wpAnyH_take (i := 0) (v := undef) rfl (by kernel_rfl) (by kernel_rfl) (by kernel_rfl) (fun _ _ _ h => h) (Or.inr ⟨by rfl, rfl⟩) (by assumption) ?_)
      | fail "take 0")
    try simp only [Act.put, List.setIfInBounds_toArray, List.set_cons_zero, List.set_cons_succ, List.getElem_toArray, List.getElem_cons_zero]
    (first
      | (refine wpAnyH_take (i := 1) (v := ?_) rfl (by kernel_rfl) (by kernel_rfl) (by kernel_rfl) (fun _ _ _ h => h) (Or.inl ⟨by rfl, ?_⟩) (by assumption) ?_
         rotate_left
         focus (intro wq hSq; (try dsimp only at hSq); go_simp; (try (with_reducible rfl)); done))
      | (refine wpAnyH_take (i := 1) (v := undef) rfl (by kernel_rfl) (by kernel_rfl) (by kernel_rfl) (fun _ _ _ h => h) (Or.inr ⟨by rfl, rfl⟩) (by assumption) ?_)
      | fail "take 1")
    try simp only [Act.put, List.setIfInBounds_toArray, List.set_cons_zero, List.set_cons_succ, List.getElem_toArray, List.getElem_cons_zero, List.getElem_cons_succ]
    (first
      | (refine wpAnyH_take (i := 2) (v := ?_) rfl (by kernel_rfl) (by kernel_rfl) (by kernel_rfl) (fun _ _ _ h => h) (Or.inl ⟨by rfl, ?_⟩) (by assumption) ?_
         rotate_left
         focus (intro wq hSq; (try dsimp only at hSq); go_simp; (try (with_reducible rfl)); done))
      | (refine wpAnyH_take (i := 2) (v := undef) rfl (by kernel_rfl) (by kernel_rfl) (by kernel_rfl) (fun _ _ _ h => h) (Or.inr ⟨by rfl, rfl⟩) (by assumption) ?_)
      | fail "take 2")
    try simp only [Act.put, List.setIfInBounds_toArray, List.set_cons_zero, List.set_cons_succ, List.getElem_toArray, List.getElem_cons_zero, List.getElem_cons_succ]
    (first
      | (refine wpAnyH_take (i := 3) (v := ?_) rfl (by kernel_rfl) (by kernel_rfl) (by kernel_rfl) (fun _ _ _ h => h) (Or.inl ⟨by rfl, ?_⟩) (by assumption) ?_
         rotate_left
         focus (intro wq hSq; (try dsimp only at hSq); go_simp; (try (with_reducible rfl)); done))
      | (refine wpAnyH_take (i := 3) (v := undef) rfl (by kernel_rfl) (by kernel_rfl) (by kernel_rfl) (fun _ _ _ h => h) (Or.inr ⟨by rfl, rfl⟩) (by assumption) ?_)
      | fail "take 3")
    try simp only [Act.put, List.setIfInBounds_toArray, List.set_cons_zero, List.set_cons_succ, List.getElem_toArray, List.getElem_cons_zero, List.getElem_cons_succ]
    refine wpAnyH_ready (rs := [4]) (by kernel_rfl) (by simp) ?_
    refine AllReadyH.cons (o := _) rfl (fun K hK => ?_) AllReadyH.nil
    go_simp
    refine (HPh.out _ (hbw8.trans ((Below.refl _ _).drew.mono hbw8.size))).mono ?_; rintro e w9 ⟨A9, c9, rfl, slp, hb9⟩; have hb89 := (Below.refl w8.heap.size w8).drew.trans hb9
    refine hK.out _ _ ?_ (fun hHeld => ?_)
    · exact e8 hb89
    clear hK K
    try simp only [Act.put, List.setIfInBounds_toArray, List.set_cons_zero, List.set_cons_succ, List.getElem_toArray, List.getElem_cons_zero, List.getElem_cons_succ]
    (first
      | (refine wpAnyH_take (i := 5) (v := ?_) rfl (by kernel_rfl) (by kernel_rfl) (by kernel_rfl) (fun _ _ _ h => h) (Or.inl ⟨by rfl, ?_⟩) (by assumption) ?_
         rotate_left
         focus (intro wq hSq; (try dsimp only at hSq); go_simp; (try (with_reducible rfl)); done))
      | (refine wpAnyH_take (i := 5) (v := undef) rfl (by kernel_rfl) (by kernel_rfl) (by kernel_rfl) (fun _ _ _ h => h) (Or.inr ⟨by rfl, rfl⟩) (by assumption) ?_)
      | fail "take 5")
    try simp only [Act.put, List.setIfInBounds_toArray, List.set_cons_zero, List.set_cons_succ, List.getElem_toArray, List.getElem_cons_zero, List.getElem_cons_succ]
    (first
      | (refine wpAnyH_take (i := 6) (v := ?_) rfl (by kernel_rfl) (by kernel_rfl) (by kernel_rfl) (fun _ _ _ h => h) (Or.inl ⟨by rfl, ?_⟩) (by assumption) ?_
         rotate_left
         focus (intro wq hSq; (try dsimp only at hSq); go_simp; (try (with_reducible rfl)); done))
      | (refine wpAnyH_take (i := 6) (v := undef) rfl (by kernel_rfl) (by kernel_rfl) (by kernel_rfl) (fun _ _ _ h => h) (Or.inr ⟨by rfl, rfl⟩) (by assumption) ?_)
      | fail "take 6")
    try simp only [Act.put, List.setIfInBounds_toArray, List.set_cons_zero, List.set_cons_succ, List.getElem_toArray, List.getElem_cons_zero, List.getElem_cons_succ]
    (first
      | (refine wpAnyH_take (i := 7) (v := ?_) rfl (by kernel_rfl) (by kernel_rfl) (by kernel_rfl) (fun _ _ _ h => h) (Or.inl ⟨by rfl, ?_⟩) (by assumption) ?_
         rotate_left
         focus (intro wq hSq; (try dsimp only at hSq); go_simp; (try (with_reducible rfl)); done))
      | (refine wpAnyH_take (i := 7) (v := undef) rfl (by kernel_rfl) (by kernel_rfl) (by kernel_rfl) (fun _ _ _ h => h) (Or.inr ⟨by rfl, rfl⟩) (by assumption) ?_)
      | fail "take 7")
    try simp only [Act.put, List.setIfInBounds_toArray, List.set_cons_zero, List.set_cons_succ, List.getElem_toArray, List.getElem_cons_zero, List.getElem_cons_succ]
    (first
      | (refine wpAnyH_take (i := 8) (v := ?_) rfl (by kernel_rfl) (by kernel_rfl) (by kernel_rfl) (fun _ _ _ h => h) (Or.inl ⟨by rfl, ?_⟩) (by assumption) ?_
         rotate_left
         focus (intro wq hSq; (try dsimp only at hSq); go_simp; (try (with_reducible rfl)); done))
      | (refine wpAnyH_take (i := 8) (v := undef) rfl (by kernel_rfl) (by kernel_rfl) (by kernel_rfl) (fun _ _ _ h => h) (Or.inr ⟨by rfl, rfl⟩) (by assumption) ?_)
      | fail "take 8")
    try simp only [Act.put, List.setIfInBounds_toArray, List.set_cons_zero, List.set_cons_succ, List.getElem_toArray, List.getElem_cons_zero, List.getElem_cons_succ]
    (first
      | (refine wpAnyH_take (i := 9) (v := ?_) rfl (by kernel_rfl) (by kernel_rfl) (by kernel_rfl) (fun _ _ _ h => h) (Or.inl ⟨by rfl, ?_⟩) (by assumption) ?_
         rotate_left
         focus (intro wq hSq; (try dsimp only at hSq); go_simp; (try (with_reducible rfl)); done))
      | (refine wpAnyH_take (i := 9) (v := undef) rfl (by kernel_rfl) (by kernel_rfl) (by kernel_rfl) (fun _ _ _ h => h) (Or.inr ⟨by rfl, rfl⟩) (by assumption) ?_)
      | fail "take 9")
    try simp only [Act.put, List.setIfInBounds_toArray, List.set_cons_zero, List.set_cons_succ, List.getElem_toArray, List.getElem_cons_zero, List.getElem_cons_succ]
    refine wpAnyH_done (by kernel_rfl) ?_ _
    clear hHeld e8
    try clear hHeld
    have hbw9 := hbw8.trans (hb89.mono hbw8.size)
    clear hb9 hb89 hbw7 hbw8 HPh
    clear c0 c1 c2 c3 c4
    obtain ⟨c0, c1, c2, c3, c4, hz9, sl9, _, _, _⟩ := hcb.next hbw9
    simp only [Nat.zero_add] at c0 c1 c2 c3 c4
    go_wp2_with fail
    refine (HLt.out _ hbw9).mono ?_
    rintro e w10 ⟨rfl, hb10⟩
    have hbw10 := hbw9.trans (hb10.mono hbw9.size)
    replace slp := slp.next hb10
    clear hb10 hbw9
    clear c0 c1 c2 c3 c4
    obtain ⟨c0, c1, c2, c3, c4, hz10, sl10, _, _, _⟩ := hcb.next hbw10
    simp only [Nat.zero_add] at c0 c1 c2 c3 c4
    go_wp2_with fail
    refine (HCn.out _ hbw10).mono ?_
    rintro e w11 ⟨rfl, hb11⟩
    have hbw11 := hbw10.trans (hb11.mono hbw10.size)
    replace slp := slp.next hb11
    clear hb11 hbw10
    clear c0 c1 c2 c3 c4
    obtain ⟨c0, c1, c2, c3, c4, hz11, sl11, _, _, _⟩ := hcb.next hbw11
    simp only [Nat.zero_add] at c0 c1 c2 c3 c4
    go_wp2_with fail
    refine (HLe.out _ hbw11).mono ?_
    rintro e w12 ⟨rfl, hb12⟩
    have hbw12 := hbw11.trans (hb12.mono hbw11.size)
    replace slp := slp.next hb12
    clear hb12 hbw11
    clear c0 c1 c2 c3 c4
    obtain ⟨c0, c1, c2, c3, c4, hz12, sl12, _, _, _⟩ := hcb.next hbw12
    simp only [Nat.zero_add] at c0 c1 c2 c3 c4
    have slp12 := slp
    have n1 : ¬ (N : Int) < 1 := by omega
    have n2 : ¬ (N : Int) > 40 := by omega
    have n3 : ¬ LE > z.x.p := by omega
    go_wp2_with fail
    go_loopw [14, 15, 16, 17] (fun y q f i wr => ∃ k : Nat, k ≤ N ∧ i = .int .i64 k ∧ y = .int .i64 (totI (ps.take k)) ∧ q = .int .i64 (litI (ps.take k)) ∧ f = .int .i64 (((k + 1) / 2 : Nat) : Int) ∧ Below w12.heap.size w12 wr) (fun _ _ _ i _ => N - (intOf i).toNat)
    case atStart => exact ⟨0, Nat.zero_le _, rfl, rfl, rfl, rfl, Below.refl _ _⟩
    case round =>
      obtain ⟨k, hk, rfl, rfl, rfl, rfl, hbw⟩ := hrel
      have hbwr := hbw12.trans (hbw.mono hbw12.size)
      clear c0 c1 c2 c3 c4
      obtain ⟨c0, c1, c2, c3, c4, hzr, _, _, _, _⟩ := hcb.next hbwr
      simp only [Nat.zero_add] at c0 c1 c2 c3 c4
      by_cases hlt : k < N
      · obtain ⟨b, off, p, rfl, hb', hx, d0, d1⟩ := (slp.next hbw).ph k hlt
        have hp := Hpp.out p (List.mem_of_getElem? hx)
        have hE := Hpl.out k p hx
        have hT := totI_next hx
        have hL := litI_next hx
        have hmm : ∀ q ∈ ps.take k, 0 ≤ q.len ∧ q.len ≤ 600 := fun q hq => by
          have := Hpp.out q (List.mem_of_mem_take hq)
          omega
        have hTb := tot_bd hmm
        have hLb := lit_tot hmm
        rw [List.length_take] at hTb
        have hTb2 : 0 ≤ totI (ps.take k) ∧ totI (ps.take k) ≤ 24000 := by omega
        have hLb2 : 0 ≤ litI (ps.take k) ∧ litI (ps.take k) ≤ 24000 := by omega
        clear hTb hLb hmm
        obtain ⟨T, hTe⟩ : ∃ T, totI (ps.take k) = T := ⟨_, rfl⟩
        obtain ⟨L, hLe⟩ : ∃ L, litI (ps.take k) = L := ⟨_, rfl⟩
        obtain ⟨F, hF⟩ : ∃ F : Nat, (k + 1) / 2 = F := ⟨_, rfl⟩
        rw [hTe] at hT hTb2 ⊢
        rw [hLe] at hL hLb2 ⊢
        rw [hF]
        have hFb : F ≤ 40 := by omega
        have hev := lit_even oc k
        have i0 : (0 : Int) ≤ (k : Int) := by omega
        have i1 : (k : Int) < (N : Int) := by omega
        have q1 : ¬ p.len < 1 := by omega
        have q2 : ¬ p.len > 1000 := by omega
        have HT := Lib.hid hT; clear hT
        have HL := Lib.hid hL; clear hL
        have HTe := Lib.hid hTe; clear hTe
        have HLe := Lib.hid hLe; clear hLe
        have HF := Lib.hid hF; clear hF
        have Hx := Lib.hid hx; clear hx
        have Hev := Lib.hid hev; clear hev
        by_cases hk0 : k = 0
        · subst hk0
          simp only [Nat.zero_mul, Nat.add_zero] at d0 d1
          cases oc
          · have hlk : litAt false 0 = true := by first | exact hln | rfl
            rw [hlk] at hE
            have hev := Hev.out
            rw [hlk] at hev
            first | simp only [Bool.not_false] at hE | simp only [Bool.not_true] at hE
            have Hlk := Lib.hid hlk; clear hlk
            have Hev2 := Lib.hid hev; clear hev
            clear Hev
            try clear hln
            go_wp2_with fail
            refine wp_region_wq (by kernel_rfl) (by kernel_rfl) ?_
            repeat (
              refine WQ.step (fun K hK => ?_)
              go_simp
              refine hK _ ?_
              clear hK K)
            refine WQ.nil ?_
            intro _ hw'
            obtain ⟨nq, hw''⟩ := hw'
            subst hw''
            have d0z : (wr.drewN nq).cell? _ = _ := d0
            have d1z : (wr.drewN nq).cell? _ = _ := d1
            have c0z : (wr.drewN nq).cell? _ = _ := c0
            have hbwz : Below w12.heap.size w12 (wr.drewN nq) := below_drewN hbw nq
            clear d0 d1 c0 c1 c2 c3 c4
            try clear d0p
            generalize wr.drewN nq = wz at *
            go_wp2_with fail
            refine wp_region_wq (by kernel_rfl) (by kernel_rfl) ?_
            repeat (
              refine WQ.step (fun K hK => ?_)
              go_simp
              refine hK _ ?_
              clear hK K)
            refine WQ.nil ?_
            intro _ hw'
            obtain ⟨nq, hw''⟩ := hw'
            subst hw''
            go_wp2_with fail
            go_roundw
            case rel => exact ⟨0 + 1, by omega, by go_num, int_eq HT.out.symm, int_eq (by rw [HL.out, hE]; simp), int_eq (by have h1 := HF.out; have h2 := Hev2.out; simp at h2; omega), below_drewN hbwz nq⟩
            case measure => simp [intOf]; omega
          · have hlk : litAt true 0 = false := by first | exact hln | rfl
            rw [hlk] at hE
            have hev := Hev.out
            rw [hlk] at hev
            first | simp only [Bool.not_false] at hE | simp only [Bool.not_true] at hE
            have Hlk := Lib.hid hlk; clear hlk
            have Hev2 := Lib.hid hev; clear hev
            clear Hev
            try clear hln
            go_wp2_with fail
            refine wp_region_wq (by kernel_rfl) (by kernel_rfl) ?_
            repeat (
              refine WQ.step (fun K hK => ?_)
              go_simp
              refine hK _ ?_
              clear hK K)
            refine WQ.nil ?_
            intro _ hw'
            obtain ⟨nq, hw''⟩ := hw'
            subst hw''
            have d0z : (wr.drewN nq).cell? _ = _ := d0
            have d1z : (wr.drewN nq).cell? _ = _ := d1
            have c0z : (wr.drewN nq).cell? _ = _ := c0
            have hbwz : Below w12.heap.size w12 (wr.drewN nq) := below_drewN hbw nq
            clear d0 d1 c0 c1 c2 c3 c4
            try clear d0p
            generalize wr.drewN nq = wz at *
            go_wp2_with fail
            refine wp_region_wq (by kernel_rfl) (by kernel_rfl) ?_
            repeat (
              refine WQ.step (fun K hK => ?_)
              go_simp
              refine hK _ ?_
              clear hK K)
            refine WQ.nil ?_
            intro _ hw'
            obtain ⟨nq, hw''⟩ := hw'
            subst hw''
            go_wp2_with fail
            go_roundw
            case rel => exact ⟨0 + 1, by omega, by go_num, int_eq HT.out.symm, int_eq (by rw [HL.out, hE]; simp), int_eq (by have h1 := HF.out; have h2 := Hev2.out; simp at h2; omega), below_drewN hbwz nq⟩
            case measure => simp [intOf]; omega
        · obtain ⟨m, hm⟩ : ∃ m, k = m + 1 := ⟨k - 1, by omega⟩
          obtain ⟨b2, off2, p2, hA2, _, hx2, d0p, _⟩ := (slp.next hbw).ph m (by omega)
          injection hA2 with hA2
          injection hA2 with e1 e2 _
          subst e1 e2
          have hE2 := Hpl.out m p2 hx2
          have Hx2 := Lib.hid hx2; clear hx2
          have hln := lit_next oc m
          rw [← hm] at hln
          have j1 : (k : Int) - 1 = (m : Int) := by omega
          have j2 : (0 : Int) < (k : Int) := by omega
          have j5 : (k : Int) > 0 := j2
          have j6 : decide ((0 : Int) < (k : Int)) = true := decide_eq_true j2
          have j7 : decide ((k : Int) > 0) = true := decide_eq_true j2
          have j8 : 0 < k := by omega
          have j10 : IntKind.i64.wrap (m : Int) = (m : Int) := IntWalk.i64_in _ (by omega)
          have j9 : decide (0 < k) = true := decide_eq_true j8
          have j3 : (0 : Int) ≤ (m : Int) := by omega
          have j4 : (m : Int) < (N : Int) := by omega
          have Hm := Lib.hid hm; clear hm
          clear hk0
          cases hl : litAt oc m
          · rw [hl] at hE2 hln
            first | simp only [Bool.not_false] at hE2 hln | simp only [Bool.not_true] at hE2 hln
            have Hl := Lib.hid hl; clear hl
            cases oc
            · have hlk : litAt false k = true := by first | exact hln | rfl
              rw [hlk] at hE
              have hev := Hev.out
              rw [hlk] at hev
              first | simp only [Bool.not_false] at hE | simp only [Bool.not_true] at hE
              have Hlk := Lib.hid hlk; clear hlk
              have Hev2 := Lib.hid hev; clear hev
              clear Hev
              try clear hln
              go_wp2_with fail
              refine wp_region_wq (by kernel_rfl) (by kernel_rfl) ?_
              repeat (
                refine WQ.step (fun K hK => ?_)
                go_simp
                refine hK _ ?_
                clear hK K)
              refine WQ.nil ?_
              intro _ hw'
              obtain ⟨nq, hw''⟩ := hw'
              subst hw''
              have d0z : (wr.drewN nq).cell? _ = _ := d0
              have d1z : (wr.drewN nq).cell? _ = _ := d1
              have c0z : (wr.drewN nq).cell? _ = _ := c0
              have hbwz : Below w12.heap.size w12 (wr.drewN nq) := below_drewN hbw nq
              clear d0 d1 c0 c1 c2 c3 c4
              try clear d0p
              generalize wr.drewN nq = wz at *
              go_wp2_with fail
              refine wp_region_wq (by kernel_rfl) (by kernel_rfl) ?_
              repeat (
                refine WQ.step (fun K hK => ?_)
                go_simp
                refine hK _ ?_
                clear hK K)
              refine WQ.nil ?_
              intro _ hw'
              obtain ⟨nq, hw''⟩ := hw'
              subst hw''
              go_wp2_with fail
              go_roundw
              case rel => exact ⟨k + 1, by omega, by go_num, int_eq HT.out.symm, int_eq (by rw [HL.out, hE]; simp), int_eq (by have h1 := HF.out; have h2 := Hev2.out; simp at h2; omega), below_drewN hbwz nq⟩
              case measure => simp [intOf]; omega
            · have hlk : litAt true k = true := by first | exact hln | rfl
              rw [hlk] at hE
              have hev := Hev.out
              rw [hlk] at hev
              first | simp only [Bool.not_false] at hE | simp only [Bool.not_true] at hE
              have Hlk := Lib.hid hlk; clear hlk
              have Hev2 := Lib.hid hev; clear hev
              clear Hev
              try clear hln
              go_wp2_with fail
              refine wp_region_wq (by kernel_rfl) (by kernel_rfl) ?_
              repeat (
                refine WQ.step (fun K hK => ?_)
                go_simp
                refine hK _ ?_
                clear hK K)
              refine WQ.nil ?_
              intro _ hw'
              obtain ⟨nq, hw''⟩ := hw'
              subst hw''
              have d0z : (wr.drewN nq).cell? _ = _ := d0
              have d1z : (wr.drewN nq).cell? _ = _ := d1
              have c0z : (wr.drewN nq).cell? _ = _ := c0
              have hbwz : Below w12.heap.size w12 (wr.drewN nq) := below_drewN hbw nq
              clear d0 d1 c0 c1 c2 c3 c4
              try clear d0p
              generalize wr.drewN nq = wz at *
              go_wp2_with fail
              refine wp_region_wq (by kernel_rfl) (by kernel_rfl) ?_
              repeat (
                refine WQ.step (fun K hK => ?_)
                go_simp
                refine hK _ ?_
                clear hK K)
              refine WQ.nil ?_
              intro _ hw'
              obtain ⟨nq, hw''⟩ := hw'
              subst hw''
              go_wp2_with fail
              go_roundw
              case rel => exact ⟨k + 1, by omega, by go_num, int_eq HT.out.symm, int_eq (by rw [HL.out, hE]; simp), int_eq (by have h1 := HF.out; have h2 := Hev2.out; simp at h2; omega), below_drewN hbwz nq⟩
              case measure => simp [intOf]; omega
          · rw [hl] at hE2 hln
            first | simp only [Bool.not_false] at hE2 hln | simp only [Bool.not_true] at hE2 hln
            have Hl := Lib.hid hl; clear hl
            cases oc
            · have hlk : litAt false k = false := by first | exact hln | rfl
              rw [hlk] at hE
              have hev := Hev.out
              rw [hlk] at hev
              first | simp only [Bool.not_false] at hE | simp only [Bool.not_true] at hE
              have Hlk := Lib.hid hlk; clear hlk
              have Hev2 := Lib.hid hev; clear hev
              clear Hev
              try clear hln
              go_wp2_with fail
              refine wp_region_wq (by kernel_rfl) (by kernel_rfl) ?_
              repeat (
                refine WQ.step (fun K hK => ?_)
                go_simp
                refine hK _ ?_
                clear hK K)
              refine WQ.nil ?_
              intro _ hw'
              obtain ⟨nq, hw''⟩ := hw'
              subst hw''
              have d0z : (wr.drewN nq).cell? _ = _ := d0
              have d1z : (wr.drewN nq).cell? _ = _ := d1
              have c0z : (wr.drewN nq).cell? _ = _ := c0
              have hbwz : Below w12.heap.size w12 (wr.drewN nq) := below_drewN hbw nq
              clear d0 d1 c0 c1 c2 c3 c4
              try clear d0p
              generalize wr.drewN nq = wz at *
              go_wp2_with fail
              refine wp_region_wq (by kernel_rfl) (by kernel_rfl) ?_
              repeat (
                refine WQ.step (fun K hK => ?_)
                go_simp
                refine hK _ ?_
                clear hK K)
              refine WQ.nil ?_
              intro _ hw'
              obtain ⟨nq, hw''⟩ := hw'
              subst hw''
              go_wp2_with fail
              go_roundw
              case rel => exact ⟨k + 1, by omega, by go_num, int_eq HT.out.symm, int_eq (by rw [HL.out, hE]; simp), int_eq (by have h1 := HF.out; have h2 := Hev2.out; simp at h2; omega), below_drewN hbwz nq⟩
              case measure => simp [intOf]; omega
            · have hlk : litAt true k = false := by first | exact hln | rfl
              rw [hlk] at hE
              have hev := Hev.out
              rw [hlk] at hev
              first | simp only [Bool.not_false] at hE | simp only [Bool.not_true] at hE
              have Hlk := Lib.hid hlk; clear hlk
              have Hev2 := Lib.hid hev; clear hev
              clear Hev
              try clear hln
              go_wp2_with fail
              refine wp_region_wq (by kernel_rfl) (by kernel_rfl) ?_
              repeat (
                refine WQ.step (fun K hK => ?_)
                go_simp
                refine hK _ ?_
                clear hK K)
              refine WQ.nil ?_
              intro _ hw'
              obtain ⟨nq, hw''⟩ := hw'
              subst hw''
              have d0z : (wr.drewN nq).cell? _ = _ := d0
              have d1z : (wr.drewN nq).cell? _ = _ := d1
              have c0z : (wr.drewN nq).cell? _ = _ := c0
              have hbwz : Below w12.heap.size w12 (wr.drewN nq) := below_drewN hbw nq
              clear d0 d1 c0 c1 c2 c3 c4
              try clear d0p
              generalize wr.drewN nq = wz at *
              go_wp2_with fail
              refine wp_region_wq (by kernel_rfl) (by kernel_rfl) ?_
              repeat (
                refine WQ.step (fun K hK => ?_)
                go_simp
                refine hK _ ?_
                clear hK K)
              refine WQ.nil ?_
              intro _ hw'
              obtain ⟨nq, hw''⟩ := hw'
              subst hw''
              go_wp2_with fail
              go_roundw
              case rel => exact ⟨k + 1, by omega, by go_num, int_eq HT.out.symm, int_eq (by rw [HL.out, hE]; simp), int_eq (by have h1 := HF.out; have h2 := Hev2.out; simp at h2; omega), below_drewN hbwz nq⟩
              case measure => simp [intOf]; omega
      · obtain rfl : k = N := by omega
        have htk : ps.take k = ps := List.take_of_length_le (by rw [HN.out]; omega)
        rw [htk, HTI.out, HLI.out]
        have hl1 : (LI == LI) = true := by simp
        have hbF : Below w.heap.size w wr := hb4.trans (hbwr.mono hb4.size)
        have i1 : ¬ (k : Int) < (k : Int) := by omega
        have hcase : ((z.x.k == 1) = true ∧ (CI == 0) = true) ∨ ((z.x.k == 1) = true ∧ (CI == 0) = false ∧ CI = (((k + 1) / 2 : Nat) : Int)) ∨ ((z.x.k == 1) = false ∧ CI = (((k + 1) / 2 : Nat) : Int)) := by
          by_cases h1 : z.x.k = 1
          · by_cases h2 : CI = 0
            · left; simp [h1, h2]
            · right; left
              refine ⟨by simp [h1], by simpa using h2, ?_⟩
              rcases Hcp.out with ⟨_, h⟩ | h
              · exact absurd h h2
              · exact h
          · right; right
            refine ⟨by simpa using h1, ?_⟩
            rcases Hcp.out with ⟨h, _⟩ | h
            · exact absurd h h1
            · exact h
        obtain ⟨F, hF⟩ : ∃ F, (((k + 1) / 2 : Nat) : Int) = F := ⟨_, rfl⟩
        rw [hF] at hcase ⊢
        clear hF htk
        have hff : (F == F) = true := by simp
        have hpz : (z.x.p == 0) = true ∨ ((z.x.p == 0) = false ∧ (TI == z.x.p) = true) := by
          by_cases h : z.x.p = 0
          · left; simpa using h
          · right
            refine ⟨by simpa using h, ?_⟩
            rcases Htp.out with h2 | h2
            · exact absurd h2 h
            · simpa using h2
        rcases hpz with hp0 | ⟨hp0, hp1⟩
        · rcases hcase with ⟨h1, h2⟩ | ⟨h1, h2, rfl⟩ | ⟨h1, rfl⟩
          · go_wp2_with fail
            go_ret
            exact ⟨rfl, hbF⟩
          · go_wp2_with fail
            go_ret
            exact ⟨rfl, hbF⟩
          · go_wp2_with fail
            go_ret
            exact ⟨rfl, hbF⟩
        · rcases hcase with ⟨h1, h2⟩ | ⟨h1, h2, rfl⟩ | ⟨h1, rfl⟩
          · go_wp2_with fail
            go_ret
            exact ⟨rfl, hbF⟩
          · go_wp2_with fail
            go_ret
            exact ⟨rfl, hbF⟩
          · go_wp2_with fail
            go_ret
            exact ⟨rfl, hbF⟩
end Go.Proofs.YtjkjmpmefapnoaaGreatDoor
