/- SecG: several of my texts in one. -/
import Derived.Test.YtpfnnjcochhklaaGreatDoorAiG
import Derived.Test.YtpfnnjcochhklaaGreatDoorSecLaw
import Derived.Lib.OthersKept

/- Sectors: the program. -/
namespace Go.Proofs.YtpfnnjcochhklaaGreatDoor
open Go.RowKit
theorem mod360 (a : Int) : (a.tmod 360 + 360).tmod 360 = a % 360 := by
  rcases Int.le_total 0 a with h | h
  · rw [Int.tmod_eq_emod_of_nonneg h, Int.tmod_eq_emod_of_nonneg (by omega)]; omega
  · obtain ⟨b, rfl⟩ : ∃ b, a = -b := ⟨-a, by omega⟩
    rw [Int.neg_tmod, Int.tmod_eq_emod_of_nonneg (show 0 ≤ b by omega), Int.tmod_eq_emod_of_nonneg (by omega)]; omega
theorem tmod360 (a : Int) : -359 ≤ a.tmod 360 ∧ a.tmod 360 ≤ 359 := by
  rcases Int.le_total 0 a with h | h
  · rw [Int.tmod_eq_emod_of_nonneg h]; omega
  · obtain ⟨b, rfl⟩ : ∃ b, a = -b := ⟨-a, by omega⟩
    rw [Int.neg_tmod, Int.tmod_eq_emod_of_nonneg (show 0 ≤ b by omega)]; omega
set_option maxHeartbeats 400000 in
theorem modulo_c (a : Int) (w : World) : Calls Tryz.prog 167 #[.int .i64 a, .int .i64 360] w fun e w' => e = .returned (.int .i64 (a % 360)) ∧ w = w' := by
  have h0 := mod360 a
  have h1 := tmod360 a
  have h2 : (a.tmod 360 + 360) % 360 = a % 360 := by rw [← Int.tmod_eq_emod_of_nonneg (show 0 ≤ a.tmod 360 + 360 by omega), h0]
  clear h0
  have H2 := Lib.hid h2; clear h2
  go_enter Tryz.func167, Tryz.ntmps167
  go_wp2
  go_ret
  exact ⟨ret_eq (int_eq H2.out), rfl⟩
set_option maxHeartbeats 400000 in
theorem isBearing_c (n : Int) (w : World) : Calls Tryz.prog 165 #[.int .i64 n] w fun e w' => e = .returned (.bool (inB n 0 359)) ∧ w = w' := by
  go_enter Tryz.func165, Tryz.ntmps165
  go_wp2_with (go_at_call 124; refine (within_c _ _ _ _).mono ?_; rintro e w1 ⟨rfl, rfl⟩)
  go_ret
  exact ⟨rfl, rfl⟩
set_option maxHeartbeats 400000 in
theorem arc_c (f t : Int) (c : ByteArray) (w : World) (hf : 0 ≤ f ∧ f ≤ 359) (ht : 0 ≤ t ∧ t ≤ 359) : Calls Tryz.prog 151 #[.agg #[.int .i64 f, .int .i64 t, .string c]] w fun e w' => e = .returned (.int .i64 (arcI f t)) ∧ Below w.heap.size w w' := by
  have h1 : 0 ≤ (t - f - 1) % 360 ∧ (t - f - 1) % 360 < 360 := by omega
  go_enter Tryz.func151, Tryz.ntmps151
  go_wp2_with (go_at_call 167; refine (modulo_c _ _).mono ?_; rintro e w1 ⟨rfl, rfl⟩)
  go_ret
  exact ⟨ret_eq (int_eq rfl), by (repeat (first | (with_reducible assumption) | (with_reducible exact Below.refl _ _) | exact Nat.le_refl _ | exact Below.size (by with_reducible assumption) | (with_reducible refine Below.drew ?_) | (with_reducible refine below_drewN ?_ _) | (with_reducible refine Below.alloc ?_ ?_ _) | (with_reducible refine Below.setCell ?_ ?_ _) | (with_reducible refine le_alloc ?_ _) | (with_reducible refine le_set ?_ _ _) | (with_reducible refine le_drew ?_) | (with_reducible refine le_drewN ?_ _) | omega | (dsimp only; omega)))⟩
set_option maxHeartbeats 400000 in
theorem has_c (f t : Int) (c : ByteArray) (b : Int) (w : World) (hf : 0 ≤ f ∧ f ≤ 359) (ht : 0 ≤ t ∧ t ≤ 359) : Calls Tryz.prog 150 #[.agg #[.int .i64 f, .int .i64 t, .string c], .int .i64 b] w fun e w' =>
    ∃ r : Bool, e = .returned (.bool r) ∧ (0 ≤ b ∧ b ≤ 359 → r = decide (distI f b < arcI f t)) ∧ Below w.heap.size w w' := by
  have hb0 : Below w.heap.size w (w.alloc (.cells #[.int .i64 f, .int .i64 t, .string c] 94)) := by (repeat (first | (with_reducible assumption) | (with_reducible exact Below.refl _ _) | exact Nat.le_refl _ | exact Below.size (by with_reducible assumption) | (with_reducible refine Below.drew ?_) | (with_reducible refine below_drewN ?_ _) | (with_reducible refine Below.alloc ?_ ?_ _) | (with_reducible refine Below.setCell ?_ ?_ _) | (with_reducible refine le_alloc ?_ _) | (with_reducible refine le_set ?_ _ _) | (with_reducible refine le_drew ?_) | (with_reducible refine le_drewN ?_ _) | omega | (dsimp only; omega)))
  go_enter Tryz.func150, Tryz.ntmps150
  go_wp2
  go_region_held3 (fun w' => Below w.heap.size w w' ∧ (∀ x, w'.cell? ⟨w.heap.size, x, none⟩ = (w.alloc (.cells #[.int .i64 f, .int .i64 t, .string c] 94)).cell? ⟨w.heap.size, x, none⟩)) (first | exact ⟨hb0.drew, fun _ => rfl⟩ | exact ⟨hb0.drew.trans (hb7.mono hb0.size), keepC hb7 _ (by simp)⟩) (first | (go_at_call 167; refine (modulo_c _ _).mono ?_; rintro e w8 ⟨rfl, rfl⟩) | (go_at_call 151; refine (arc_c f t c _ hf ht).mono ?_; rintro e w7 ⟨rfl, hb7⟩))
  go_wp2
  go_ret
  exact ⟨_, rfl, fun h => by rw [IntWalk.i64_in _ (by omega)]; rfl, hb0.drew.trans (hb7.mono hb0.size)⟩
set_option maxHeartbeats 400000 in
theorem validSector_c (s : Sec) (w : World) (hs : s.c.size ≤ maxLen) : Calls Tryz.prog 149 #[.agg #[.int .i64 s.f, .int .i64 s.t, .string s.c]] w fun e w' => e = .returned (.bool (secOk s)) ∧ Below w.heap.size w w' := by
  obtain ⟨f, t, c⟩ := s
  simp only at hs
  have hv : secOk ⟨f, t, c⟩ = (inB f 0 359 && inB t 0 359 && colB c) := rfl
  rw [hv]
  have Hv := Lib.hid hv; clear hv
  cases h1 : inB f 0 359 <;> cases h2 : inB t 0 359
  all_goals
    go_enter Tryz.func149, Tryz.ntmps149
    go_wp2_with (first | (go_at_call 165; refine (isBearing_c _ _).mono ?_; rintro e w1 ⟨rfl, rfl⟩) | (go_at_call 166; refine (isColor_c _ _ hs).mono ?_; rintro e w1 ⟨rfl, rfl⟩))
    go_ret
    exact ⟨ret_eq (bool_eq (by simp)), by (repeat (first | (with_reducible assumption) | (with_reducible exact Below.refl _ _) | exact Nat.le_refl _ | exact Below.size (by with_reducible assumption) | (with_reducible refine Below.drew ?_) | (with_reducible refine below_drewN ?_ _) | (with_reducible refine Below.alloc ?_ ?_ _) | (with_reducible refine Below.setCell ?_ ?_ _) | (with_reducible refine le_alloc ?_ _) | (with_reducible refine le_set ?_ _ _) | (with_reducible refine le_drew ?_) | (with_reducible refine le_drewN ?_ _) | omega | (dsimp only; omega)))⟩
end Go.Proofs.YtpfnnjcochhklaaGreatDoor

/- Sectors: the program: ValidSectors. -/
namespace Go.Proofs.YtpfnnjcochhklaaGreatDoor
open Go.RowKit
set_option maxRecDepth 100000 in
set_option maxHeartbeats 1000000 in
theorem validSectors_c (A : Option Addr) (n c : Nat) (xs : List Sec) (w : World) (h : Sl w w.heap.size 3 A n (xs.flatMap Sec.cells)) (hm : n ≤ 1048576) (hs : ∀ s ∈ xs, s.c.size ≤ maxLen) :
    Calls Tryz.prog 133 #[.slice A n c] w fun e w' => e = .returned (.bool (secsB xs)) ∧ Below w.heap.size w w' := by
  have hl := h.len Sec.cells 3 Sec.cells_len (by omega)
  have Hl := Lib.hid hl; clear hl
  have Hs := Lib.hid hs; clear hs
  obtain ⟨R, hR⟩ : ∃ R, secsB xs = R := ⟨_, rfl⟩
  rw [hR]
  have HR := Lib.hid hR; clear hR
  go_enter Tryz.func133, Tryz.ntmps133
  go_wp2
  go_loopw [3, 10] (fun t i wr => ∃ k : Nat, k ≤ n ∧ i = .int .i64 k ∧ t = .int .i64 (arcSum xs k) ∧ Hid (∀ r, r < k → secOk (sAt xs r) = true) ∧ Hid (∀ r, r < k → 0 < r → (sAt xs (r - 1)).f < (sAt xs r).f) ∧
    Hid (∀ r, r < k → ∀ q, q < n → r ≠ q → secOk (sAt xs q) = true → arcI (sAt xs r).f (sAt xs r).t ≤ distI (sAt xs r).f (sAt xs q).f) ∧ Below w.heap.size w wr) (fun _ i _ => n - (intOf i).toNat)
  case atStart => exact ⟨0, Nat.zero_le _, rfl, rfl, Lib.hid (fun r hr => absurd hr (by omega)), Lib.hid (fun r hr => absurd hr (by omega)), Lib.hid (fun r hr => absurd hr (by omega)), Below.refl _ _⟩
  case round =>
    obtain ⟨k, hk, rfl, rfl, H1, H2, H3, hbw⟩ := hrel
    have hsum := arcSum_bd xs k
    by_cases hlt : k < n
    · obtain ⟨b, off, s, rfl, hb, hd, c1, c2, c3⟩ := h.sec k hlt
      have q1 := keepC hbw b hb
      have j1 : (0 : Int) ≤ (k : Int) := by omega
      have j2 : (k : Int) < (n : Int) := by omega
      have hsk := sAt_eq hd
      have hV : ∀ w, Calls Tryz.prog 149 #[.agg #[.int .i64 s.f, .int .i64 s.t, .string s.c]] w fun e w' => e = .returned (.bool (secOk s)) ∧ Below w.heap.size w w' := fun w => validSector_c s w (Hs.out s (List.mem_of_getElem? hd))
      have hnx : arcSum xs (k + 1) = arcSum xs k + arcI s.f s.t := by rw [arcSum, hsk]
      have HV := Lib.hid hV; clear hV
      have Hsk := Lib.hid hsk; clear hsk
      have Hd := Lib.hid hd; clear hd
      have Hnx := Lib.hid hnx; clear hnx
      have hbb : b < wr.heap.size := Nat.lt_of_lt_of_le hb hbw.size
      obtain ⟨w0, hw0⟩ : ∃ w0, wr.alloc (.cells #[.int .i64 s.f, .int .i64 s.t, .string s.c] 94) = w0 := ⟨_, rfl⟩
      have hb0' : Below wr.heap.size wr w0 := by rw [← hw0]; (repeat (first | (with_reducible assumption) | (with_reducible exact Below.refl _ _) | exact Nat.le_refl _ | exact Below.size (by with_reducible assumption) | (with_reducible refine Below.drew ?_) | (with_reducible refine below_drewN ?_ _) | (with_reducible refine Below.alloc ?_ ?_ _) | (with_reducible refine Below.setCell ?_ ?_ _) | (with_reducible refine le_alloc ?_ _) | (with_reducible refine le_set ?_ _ _) | (with_reducible refine le_drew ?_) | (with_reducible refine le_drewN ?_ _) | omega | (dsimp only; omega)))
      have g1 : w0.cell? ⟨wr.heap.size, 0, none⟩ = some (.int .i64 s.f) ∧ w0.cell? ⟨wr.heap.size, 1, none⟩ = some (.int .i64 s.t) ∧ w0.cell? ⟨wr.heap.size, 2, none⟩ = some (.string s.c) := by
        rw [← hw0]
        have hbk : (wr.alloc (.cells #[.int .i64 s.f, .int .i64 s.t, .string s.c] 94)).heap[wr.heap.size]? = some (.cells #[.int .i64 s.f, .int .i64 s.t, .string s.c] 94 (0, 0)) := heap_alloc_new wr _
        refine ⟨?_, ?_, ?_⟩ <;> (rw [cell_of_row _ wr.heap.size _ _ 94 (0, 0) hbk]; rfl)
      have hg0 : wr.heap.size < w0.heap.size := by rw [← hw0]; simp
      have hb0 : b < w0.heap.size := by omega
      obtain ⟨g1, g2, g3⟩ := g1
      have k1 := (keepC hb0' b (by omega) _).trans ((q1 _).trans c1)
      have k2 := (keepC hb0' b (by omega) _).trans ((q1 _).trans c2)
      have k3 := (keepC hb0' b (by omega) _).trans ((q1 _).trans c3)
      have hbw0 : Below w.heap.size w w0 := hbw.trans (hb0'.mono hbw.size)
      have hz0 : w.heap.size ≤ wr.heap.size := hbw.size
      have hp : 0 < k → ∃ p, xs[k - 1]? = some p ∧ w0.cell? ⟨b, off + (k - 1) * 3, none⟩ = some (.int .i64 p.f) := fun h0 => by
        obtain ⟨b', off', p, e, _, hp, d1, _⟩ := h.sec (k - 1) (by omega)
        injection e with e; injection e with e1 e2 _
        subst e1 e2
        exact ⟨p, hp, (keepC hb0' _ (by omega) _).trans ((q1 _).trans d1)⟩
      obtain ⟨g, hg⟩ : ∃ g, wr.heap.size = g := ⟨_, rfl⟩
      rw [hg] at hg0 hz0 g1 g2 g3
      clear hb0' hbb
      cases hok : secOk s
      · have hR : R = false := by
          rw [← HR.out]; refine secsB_no fun hP => ?_
          have := hP.1 k (by rw [Hl.out]; exact hlt)
          rw [Hsk.out, hok] at this; cases this
        rw [hok] at HV
        have HP := Lib.hid hp; clear hp
        have HR0 := Lib.hid hR; clear hR
        go_wp2
        try rw [hw0]
        try rw [hg]
        clear hw0 hg q1 c1 c2 c3
        have e1 : ∀ {w' : World}, Below w0.heap.size w0 w' → (Below w0.heap.size w0 w' ∧ (∀ x, w'.cell? ⟨b, x, none⟩ = w0.cell? ⟨b, x, none⟩) ∧ (∀ x, w'.cell? ⟨g, x, none⟩ = w0.cell? ⟨g, x, none⟩)) := fun hbb => ⟨hbb, keepC hbb _ hb0, keepC hbb _ hg0⟩
        refine wp_region_held_drew (S := fun w' => Below w0.heap.size w0 w' ∧ (∀ x, w'.cell? ⟨b, x, none⟩ = w0.cell? ⟨b, x, none⟩) ∧ (∀ x, w'.cell? ⟨g, x, none⟩ = w0.cell? ⟨g, x, none⟩)) (by kernel_rfl) (e1 (Below.refl _ _).drew) (fun hHeld => ?_)
        (first
          | (refine wpAnyH_take (i := 0) (v := ?_) rfl (by kernel_rfl) (by kernel_rfl) (by kernel_rfl) (fun _ _ _ h => h) (Or.inl ⟨by rfl, ?_⟩) (by assumption) ?_
             rotate_left
             focus (intro wq hSq; (try dsimp only at hSq); go_simp; (try (with_reducible rfl)); done))
          | (refine wpAnyH_take (i := 0) (v := undef) rfl (by kernel_rfl) (by kernel_rfl) (by kernel_rfl) (fun _ _ _ h => h) (Or.inr ⟨by rfl, rfl⟩) (by assumption) ?_)
          | fail "take 0")
        try simp only [Act.put, List.setIfInBounds_toArray, List.set_cons_zero, List.set_cons_succ, List.getElem_toArray, List.getElem_cons_zero]
        refine wpAnyH_ready (rs := [1]) (by kernel_rfl) (by simp) ?_
        refine AllReadyH.cons (o := _) rfl (fun K hK => ?_) AllReadyH.nil
        go_simp
        refine (HV.out _).mono ?_; rintro e w7 ⟨rfl, hb7⟩
        refine hK.out _ _ ?_ (fun hHeld => ?_)
        · exact e1 ((Below.refl _ _).drew.trans hb7)
        clear hK K
        try simp only [Act.put, List.setIfInBounds_toArray, List.set_cons_zero, List.set_cons_succ, List.getElem_toArray, List.getElem_cons_zero, List.getElem_cons_succ]
        (first
          | (refine wpAnyH_take (i := 2) (v := ?_) rfl (by kernel_rfl) (by kernel_rfl) (by kernel_rfl) (fun _ _ _ h => h) (Or.inl ⟨by rfl, ?_⟩) (by assumption) ?_
             rotate_left
             focus (intro wq hSq; (try dsimp only at hSq); go_simp; (try (with_reducible rfl)); done))
          | (refine wpAnyH_take (i := 2) (v := undef) rfl (by kernel_rfl) (by kernel_rfl) (by kernel_rfl) (fun _ _ _ h => h) (Or.inr ⟨by rfl, rfl⟩) (by assumption) ?_)
          | fail "take 2")
        try simp only [Act.put, List.setIfInBounds_toArray, List.set_cons_zero, List.set_cons_succ, List.getElem_toArray, List.getElem_cons_zero, List.getElem_cons_succ]
        (first
          | (refine wpAnyH_take (i := 3) (v := ?_) rfl (by kernel_rfl) (by kernel_rfl) (by kernel_rfl) (fun _ _ _ h => h) (Or.inl ⟨by rfl, ?_⟩) (by assumption) ?_
             rotate_left
             focus (intro wq hSq; (try dsimp only at hSq); go_simp; (try (with_reducible rfl)); done))
          | (refine wpAnyH_take (i := 3) (v := undef) rfl (by kernel_rfl) (by kernel_rfl) (by kernel_rfl) (fun _ _ _ h => h) (Or.inr ⟨by rfl, rfl⟩) (by assumption) ?_)
          | fail "take 3")
        try simp only [Act.put, List.setIfInBounds_toArray, List.set_cons_zero, List.set_cons_succ, List.getElem_toArray, List.getElem_cons_zero, List.getElem_cons_succ]
        (first
          | (refine wpAnyH_take (i := 4) (v := ?_) rfl (by kernel_rfl) (by kernel_rfl) (by kernel_rfl) (fun _ _ _ h => h) (Or.inl ⟨by rfl, ?_⟩) (by assumption) ?_
             rotate_left
             focus (intro wq hSq; (try dsimp only at hSq); go_simp; (try (with_reducible rfl)); done))
          | (refine wpAnyH_take (i := 4) (v := undef) rfl (by kernel_rfl) (by kernel_rfl) (by kernel_rfl) (fun _ _ _ h => h) (Or.inr ⟨by rfl, rfl⟩) (by assumption) ?_)
          | fail "take 4")
        try simp only [Act.put, List.setIfInBounds_toArray, List.set_cons_zero, List.set_cons_succ, List.getElem_toArray, List.getElem_cons_zero, List.getElem_cons_succ]
        (first
          | (refine wpAnyH_take (i := 5) (v := ?_) rfl (by kernel_rfl) (by kernel_rfl) (by kernel_rfl) (fun _ _ _ h => h) (Or.inl ⟨by rfl, ?_⟩) (by assumption) ?_
             rotate_left
             focus (intro wq hSq; (try dsimp only at hSq); go_simp; (try (with_reducible rfl)); done))
          | (refine wpAnyH_take (i := 5) (v := undef) rfl (by kernel_rfl) (by kernel_rfl) (by kernel_rfl) (fun _ _ _ h => h) (Or.inr ⟨by rfl, rfl⟩) (by assumption) ?_)
          | fail "take 5")
        try simp only [Act.put, List.setIfInBounds_toArray, List.set_cons_zero, List.set_cons_succ, List.getElem_toArray, List.getElem_cons_zero, List.getElem_cons_succ]
        (first
          | (refine wpAnyH_take (i := 6) (v := ?_) rfl (by kernel_rfl) (by kernel_rfl) (by kernel_rfl) (fun _ _ _ h => h) (Or.inl ⟨by rfl, ?_⟩) (by assumption) ?_
             rotate_left
             focus (intro wq hSq; (try dsimp only at hSq); go_simp; (try (with_reducible rfl)); done))
          | (refine wpAnyH_take (i := 6) (v := undef) rfl (by kernel_rfl) (by kernel_rfl) (by kernel_rfl) (fun _ _ _ h => h) (Or.inr ⟨by rfl, rfl⟩) (by assumption) ?_)
          | fail "take 6")
        try simp only [Act.put, List.setIfInBounds_toArray, List.set_cons_zero, List.set_cons_succ, List.getElem_toArray, List.getElem_cons_zero, List.getElem_cons_succ]
        (first
          | (refine wpAnyH_take (i := 7) (v := ?_) rfl (by kernel_rfl) (by kernel_rfl) (by kernel_rfl) (fun _ _ _ h => h) (Or.inl ⟨by rfl, ?_⟩) (by assumption) ?_
             rotate_left
             focus (intro wq hSq; (try dsimp only at hSq); go_simp; (try (with_reducible rfl)); done))
          | (refine wpAnyH_take (i := 7) (v := undef) rfl (by kernel_rfl) (by kernel_rfl) (by kernel_rfl) (fun _ _ _ h => h) (Or.inr ⟨by rfl, rfl⟩) (by assumption) ?_)
          | fail "take 7")
        try simp only [Act.put, List.setIfInBounds_toArray, List.set_cons_zero, List.set_cons_succ, List.getElem_toArray, List.getElem_cons_zero, List.getElem_cons_succ]
        (first
          | (refine wpAnyH_take (i := 8) (v := ?_) rfl (by kernel_rfl) (by kernel_rfl) (by kernel_rfl) (fun _ _ _ h => h) (Or.inl ⟨by rfl, ?_⟩) (by assumption) ?_
             rotate_left
             focus (intro wq hSq; (try dsimp only at hSq); go_simp; (try (with_reducible rfl)); done))
          | (refine wpAnyH_take (i := 8) (v := undef) rfl (by kernel_rfl) (by kernel_rfl) (by kernel_rfl) (fun _ _ _ h => h) (Or.inr ⟨by rfl, rfl⟩) (by assumption) ?_)
          | fail "take 8")
        try simp only [Act.put, List.setIfInBounds_toArray, List.set_cons_zero, List.set_cons_succ, List.getElem_toArray, List.getElem_cons_zero, List.getElem_cons_succ]
        (first
          | (refine wpAnyH_take (i := 9) (v := ?_) rfl (by kernel_rfl) (by kernel_rfl) (by kernel_rfl) (fun _ _ _ h => h) (Or.inl ⟨by rfl, ?_⟩) (by assumption) ?_
             rotate_left
             focus (intro wq hSq; (try dsimp only at hSq); go_simp; (try (with_reducible rfl)); done))
          | (refine wpAnyH_take (i := 9) (v := undef) rfl (by kernel_rfl) (by kernel_rfl) (by kernel_rfl) (fun _ _ _ h => h) (Or.inr ⟨by rfl, rfl⟩) (by assumption) ?_)
          | fail "take 9")
        try simp only [Act.put, List.setIfInBounds_toArray, List.set_cons_zero, List.set_cons_succ, List.getElem_toArray, List.getElem_cons_zero, List.getElem_cons_succ]
        (first
          | (refine wpAnyH_take (i := 10) (v := ?_) rfl (by kernel_rfl) (by kernel_rfl) (by kernel_rfl) (fun _ _ _ h => h) (Or.inl ⟨by rfl, ?_⟩) (by assumption) ?_
             rotate_left
             focus (intro wq hSq; (try dsimp only at hSq); go_simp; (try (with_reducible rfl)); done))
          | (refine wpAnyH_take (i := 10) (v := undef) rfl (by kernel_rfl) (by kernel_rfl) (by kernel_rfl) (fun _ _ _ h => h) (Or.inr ⟨by rfl, rfl⟩) (by assumption) ?_)
          | fail "take 10")
        try simp only [Act.put, List.setIfInBounds_toArray, List.set_cons_zero, List.set_cons_succ, List.getElem_toArray, List.getElem_cons_zero, List.getElem_cons_succ]
        (first
          | (refine wpAnyH_take (i := 11) (v := ?_) rfl (by kernel_rfl) (by kernel_rfl) (by kernel_rfl) (fun _ _ _ h => h) (Or.inl ⟨by rfl, ?_⟩) (by assumption) ?_
             rotate_left
             focus (intro wq hSq; (try dsimp only at hSq); go_simp; (try (with_reducible rfl)); done))
          | (refine wpAnyH_take (i := 11) (v := undef) rfl (by kernel_rfl) (by kernel_rfl) (by kernel_rfl) (fun _ _ _ h => h) (Or.inr ⟨by rfl, rfl⟩) (by assumption) ?_)
          | fail "take 11")
        try simp only [Act.put, List.setIfInBounds_toArray, List.set_cons_zero, List.set_cons_succ, List.getElem_toArray, List.getElem_cons_zero, List.getElem_cons_succ]
        (first
          | (refine wpAnyH_take (i := 12) (v := ?_) rfl (by kernel_rfl) (by kernel_rfl) (by kernel_rfl) (fun _ _ _ h => h) (Or.inl ⟨by rfl, ?_⟩) (by assumption) ?_
             rotate_left
             focus (intro wq hSq; (try dsimp only at hSq); go_simp; (try (with_reducible rfl)); done))
          | (refine wpAnyH_take (i := 12) (v := undef) rfl (by kernel_rfl) (by kernel_rfl) (by kernel_rfl) (fun _ _ _ h => h) (Or.inr ⟨by rfl, rfl⟩) (by assumption) ?_)
          | fail "take 12")
        try simp only [Act.put, List.setIfInBounds_toArray, List.set_cons_zero, List.set_cons_succ, List.getElem_toArray, List.getElem_cons_zero, List.getElem_cons_succ]
        (first
          | (refine wpAnyH_take (i := 13) (v := ?_) rfl (by kernel_rfl) (by kernel_rfl) (by kernel_rfl) (fun _ _ _ h => h) (Or.inl ⟨by rfl, ?_⟩) (by assumption) ?_
             rotate_left
             focus (intro wq hSq; (try dsimp only at hSq); go_simp; (try (with_reducible rfl)); done))
          | (refine wpAnyH_take (i := 13) (v := undef) rfl (by kernel_rfl) (by kernel_rfl) (by kernel_rfl) (fun _ _ _ h => h) (Or.inr ⟨by rfl, rfl⟩) (by assumption) ?_)
          | fail "take 13")
        try simp only [Act.put, List.setIfInBounds_toArray, List.set_cons_zero, List.set_cons_succ, List.getElem_toArray, List.getElem_cons_zero, List.getElem_cons_succ]
        (first
          | (refine wpAnyH_take (i := 14) (v := ?_) rfl (by kernel_rfl) (by kernel_rfl) (by kernel_rfl) (fun _ _ _ h => h) (Or.inl ⟨by rfl, ?_⟩) (by assumption) ?_
             rotate_left
             focus (intro wq hSq; (try dsimp only at hSq); go_simp; (try (with_reducible rfl)); done))
          | (refine wpAnyH_take (i := 14) (v := undef) rfl (by kernel_rfl) (by kernel_rfl) (by kernel_rfl) (fun _ _ _ h => h) (Or.inr ⟨by rfl, rfl⟩) (by assumption) ?_)
          | fail "take 14")
        try simp only [Act.put, List.setIfInBounds_toArray, List.set_cons_zero, List.set_cons_succ, List.getElem_toArray, List.getElem_cons_zero, List.getElem_cons_succ]
        (first
          | (refine wpAnyH_take (i := 15) (v := ?_) rfl (by kernel_rfl) (by kernel_rfl) (by kernel_rfl) (fun _ _ _ h => h) (Or.inl ⟨by rfl, ?_⟩) (by assumption) ?_
             rotate_left
             focus (intro wq hSq; (try dsimp only at hSq); go_simp; (try (with_reducible rfl)); done))
          | (refine wpAnyH_take (i := 15) (v := undef) rfl (by kernel_rfl) (by kernel_rfl) (by kernel_rfl) (fun _ _ _ h => h) (Or.inr ⟨by rfl, rfl⟩) (by assumption) ?_)
          | fail "take 15")
        try simp only [Act.put, List.setIfInBounds_toArray, List.set_cons_zero, List.set_cons_succ, List.getElem_toArray, List.getElem_cons_zero, List.getElem_cons_succ]
        (first
          | (refine wpAnyH_take (i := 16) (v := ?_) rfl (by kernel_rfl) (by kernel_rfl) (by kernel_rfl) (fun _ _ _ h => h) (Or.inl ⟨by rfl, ?_⟩) (by assumption) ?_
             rotate_left
             focus (intro wq hSq; (try dsimp only at hSq); go_simp; (try (with_reducible rfl)); done))
          | (refine wpAnyH_take (i := 16) (v := undef) rfl (by kernel_rfl) (by kernel_rfl) (by kernel_rfl) (fun _ _ _ h => h) (Or.inr ⟨by rfl, rfl⟩) (by assumption) ?_)
          | fail "take 16")
        try simp only [Act.put, List.setIfInBounds_toArray, List.set_cons_zero, List.set_cons_succ, List.getElem_toArray, List.getElem_cons_zero, List.getElem_cons_succ]
        (first
          | (refine wpAnyH_take (i := 17) (v := ?_) rfl (by kernel_rfl) (by kernel_rfl) (by kernel_rfl) (fun _ _ _ h => h) (Or.inl ⟨by rfl, ?_⟩) (by assumption) ?_
             rotate_left
             focus (intro wq hSq; (try dsimp only at hSq); go_simp; (try (with_reducible rfl)); done))
          | (refine wpAnyH_take (i := 17) (v := undef) rfl (by kernel_rfl) (by kernel_rfl) (by kernel_rfl) (fun _ _ _ h => h) (Or.inr ⟨by rfl, rfl⟩) (by assumption) ?_)
          | fail "take 17")
        try simp only [Act.put, List.setIfInBounds_toArray, List.set_cons_zero, List.set_cons_succ, List.getElem_toArray, List.getElem_cons_zero, List.getElem_cons_succ]
        refine wpAnyH_done (by kernel_rfl) ?_ _
        have hb8 := (Below.refl w0.heap.size w0).drew.trans hb7
        go_wp2_with fail
        go_ret
        exact ⟨ret_eq (bool_eq HR0.out.symm), hbw0.trans (hb8.mono hbw0.size)⟩
      · rw [hok] at HV
        obtain ⟨hf, ht, _⟩ := secOk_bd hok
        rcases Nat.eq_zero_or_pos k with hk0 | hk0
        · have HN : Hid (∀ r, r < k + 1 → 0 < r → (sAt xs (r - 1)).f < (sAt xs r).f) := Lib.hid fun r a b => absurd b (by omega)
          clear hp
          have k0 : ¬ 0 < k := by omega
          have Hk0 := Lib.hid hk0; clear hk0
          have Hok := Lib.hid hok; clear hok
          go_wp2
          try rw [hw0]
          try rw [hg]
          clear hw0 hg q1 c1 c2 c3
          have e1 : ∀ {w' : World}, Below w0.heap.size w0 w' → (Below w0.heap.size w0 w' ∧ (∀ x, w'.cell? ⟨b, x, none⟩ = w0.cell? ⟨b, x, none⟩) ∧ (∀ x, w'.cell? ⟨g, x, none⟩ = w0.cell? ⟨g, x, none⟩)) := fun hbb => ⟨hbb, keepC hbb _ hb0, keepC hbb _ hg0⟩
          refine wp_region_held_drew (S := fun w' => Below w0.heap.size w0 w' ∧ (∀ x, w'.cell? ⟨b, x, none⟩ = w0.cell? ⟨b, x, none⟩) ∧ (∀ x, w'.cell? ⟨g, x, none⟩ = w0.cell? ⟨g, x, none⟩)) (by kernel_rfl) (e1 (Below.refl _ _).drew) (fun hHeld => ?_)
          (first
            | (refine wpAnyH_take (i := 0) (v := ?_) rfl (by kernel_rfl) (by kernel_rfl) (by kernel_rfl) (fun _ _ _ h => h) (Or.inl ⟨by rfl, ?_⟩) (by assumption) ?_
               rotate_left
               focus (intro wq hSq; (try dsimp only at hSq); go_simp; (try (with_reducible rfl)); done))
            | (refine wpAnyH_take (i := 0) (v := undef) rfl (by kernel_rfl) (by kernel_rfl) (by kernel_rfl) (fun _ _ _ h => h) (Or.inr ⟨by rfl, rfl⟩) (by assumption) ?_)
            | fail "take 0")
          try simp only [Act.put, List.setIfInBounds_toArray, List.set_cons_zero, List.set_cons_succ, List.getElem_toArray, List.getElem_cons_zero]
          refine wpAnyH_ready (rs := [1]) (by kernel_rfl) (by simp) ?_
          refine AllReadyH.cons (o := _) rfl (fun K hK => ?_) AllReadyH.nil
          go_simp
          refine (HV.out _).mono ?_; rintro e w7 ⟨rfl, hb7⟩
          refine hK.out _ _ ?_ (fun hHeld => ?_)
          · exact e1 ((Below.refl _ _).drew.trans hb7)
          clear hK K
          try simp only [Act.put, List.setIfInBounds_toArray, List.set_cons_zero, List.set_cons_succ, List.getElem_toArray, List.getElem_cons_zero, List.getElem_cons_succ]
          (first
            | (refine wpAnyH_take (i := 2) (v := ?_) rfl (by kernel_rfl) (by kernel_rfl) (by kernel_rfl) (fun _ _ _ h => h) (Or.inl ⟨by rfl, ?_⟩) (by assumption) ?_
               rotate_left
               focus (intro wq hSq; (try dsimp only at hSq); go_simp; (try (with_reducible rfl)); done))
            | (refine wpAnyH_take (i := 2) (v := undef) rfl (by kernel_rfl) (by kernel_rfl) (by kernel_rfl) (fun _ _ _ h => h) (Or.inr ⟨by rfl, rfl⟩) (by assumption) ?_)
            | fail "take 2")
          try simp only [Act.put, List.setIfInBounds_toArray, List.set_cons_zero, List.set_cons_succ, List.getElem_toArray, List.getElem_cons_zero, List.getElem_cons_succ]
          (first
            | (refine wpAnyH_take (i := 3) (v := ?_) rfl (by kernel_rfl) (by kernel_rfl) (by kernel_rfl) (fun _ _ _ h => h) (Or.inl ⟨by rfl, ?_⟩) (by assumption) ?_
               rotate_left
               focus (intro wq hSq; (try dsimp only at hSq); go_simp; (try (with_reducible rfl)); done))
            | (refine wpAnyH_take (i := 3) (v := undef) rfl (by kernel_rfl) (by kernel_rfl) (by kernel_rfl) (fun _ _ _ h => h) (Or.inr ⟨by rfl, rfl⟩) (by assumption) ?_)
            | fail "take 3")
          try simp only [Act.put, List.setIfInBounds_toArray, List.set_cons_zero, List.set_cons_succ, List.getElem_toArray, List.getElem_cons_zero, List.getElem_cons_succ]
          (first
            | (refine wpAnyH_take (i := 4) (v := ?_) rfl (by kernel_rfl) (by kernel_rfl) (by kernel_rfl) (fun _ _ _ h => h) (Or.inl ⟨by rfl, ?_⟩) (by assumption) ?_
               rotate_left
               focus (intro wq hSq; (try dsimp only at hSq); go_simp; (try (with_reducible rfl)); done))
            | (refine wpAnyH_take (i := 4) (v := undef) rfl (by kernel_rfl) (by kernel_rfl) (by kernel_rfl) (fun _ _ _ h => h) (Or.inr ⟨by rfl, rfl⟩) (by assumption) ?_)
            | fail "take 4")
          try simp only [Act.put, List.setIfInBounds_toArray, List.set_cons_zero, List.set_cons_succ, List.getElem_toArray, List.getElem_cons_zero, List.getElem_cons_succ]
          (first
            | (refine wpAnyH_take (i := 5) (v := ?_) rfl (by kernel_rfl) (by kernel_rfl) (by kernel_rfl) (fun _ _ _ h => h) (Or.inl ⟨by rfl, ?_⟩) (by assumption) ?_
               rotate_left
               focus (intro wq hSq; (try dsimp only at hSq); go_simp; (try (with_reducible rfl)); done))
            | (refine wpAnyH_take (i := 5) (v := undef) rfl (by kernel_rfl) (by kernel_rfl) (by kernel_rfl) (fun _ _ _ h => h) (Or.inr ⟨by rfl, rfl⟩) (by assumption) ?_)
            | fail "take 5")
          try simp only [Act.put, List.setIfInBounds_toArray, List.set_cons_zero, List.set_cons_succ, List.getElem_toArray, List.getElem_cons_zero, List.getElem_cons_succ]
          (first
            | (refine wpAnyH_take (i := 6) (v := ?_) rfl (by kernel_rfl) (by kernel_rfl) (by kernel_rfl) (fun _ _ _ h => h) (Or.inl ⟨by rfl, ?_⟩) (by assumption) ?_
               rotate_left
               focus (intro wq hSq; (try dsimp only at hSq); go_simp; (try (with_reducible rfl)); done))
            | (refine wpAnyH_take (i := 6) (v := undef) rfl (by kernel_rfl) (by kernel_rfl) (by kernel_rfl) (fun _ _ _ h => h) (Or.inr ⟨by rfl, rfl⟩) (by assumption) ?_)
            | fail "take 6")
          try simp only [Act.put, List.setIfInBounds_toArray, List.set_cons_zero, List.set_cons_succ, List.getElem_toArray, List.getElem_cons_zero, List.getElem_cons_succ]
          (first
            | (refine wpAnyH_take (i := 7) (v := ?_) rfl (by kernel_rfl) (by kernel_rfl) (by kernel_rfl) (fun _ _ _ h => h) (Or.inl ⟨by rfl, ?_⟩) (by assumption) ?_
               rotate_left
               focus (intro wq hSq; (try dsimp only at hSq); go_simp; (try (with_reducible rfl)); done))
            | (refine wpAnyH_take (i := 7) (v := undef) rfl (by kernel_rfl) (by kernel_rfl) (by kernel_rfl) (fun _ _ _ h => h) (Or.inr ⟨by rfl, rfl⟩) (by assumption) ?_)
            | fail "take 7")
          try simp only [Act.put, List.setIfInBounds_toArray, List.set_cons_zero, List.set_cons_succ, List.getElem_toArray, List.getElem_cons_zero, List.getElem_cons_succ]
          (first
            | (refine wpAnyH_take (i := 8) (v := ?_) rfl (by kernel_rfl) (by kernel_rfl) (by kernel_rfl) (fun _ _ _ h => h) (Or.inl ⟨by rfl, ?_⟩) (by assumption) ?_
               rotate_left
               focus (intro wq hSq; (try dsimp only at hSq); go_simp; (try (with_reducible rfl)); done))
            | (refine wpAnyH_take (i := 8) (v := undef) rfl (by kernel_rfl) (by kernel_rfl) (by kernel_rfl) (fun _ _ _ h => h) (Or.inr ⟨by rfl, rfl⟩) (by assumption) ?_)
            | fail "take 8")
          try simp only [Act.put, List.setIfInBounds_toArray, List.set_cons_zero, List.set_cons_succ, List.getElem_toArray, List.getElem_cons_zero, List.getElem_cons_succ]
          (first
            | (refine wpAnyH_take (i := 9) (v := ?_) rfl (by kernel_rfl) (by kernel_rfl) (by kernel_rfl) (fun _ _ _ h => h) (Or.inl ⟨by rfl, ?_⟩) (by assumption) ?_
               rotate_left
               focus (intro wq hSq; (try dsimp only at hSq); go_simp; (try (with_reducible rfl)); done))
            | (refine wpAnyH_take (i := 9) (v := undef) rfl (by kernel_rfl) (by kernel_rfl) (by kernel_rfl) (fun _ _ _ h => h) (Or.inr ⟨by rfl, rfl⟩) (by assumption) ?_)
            | fail "take 9")
          try simp only [Act.put, List.setIfInBounds_toArray, List.set_cons_zero, List.set_cons_succ, List.getElem_toArray, List.getElem_cons_zero, List.getElem_cons_succ]
          (first
            | (refine wpAnyH_take (i := 10) (v := ?_) rfl (by kernel_rfl) (by kernel_rfl) (by kernel_rfl) (fun _ _ _ h => h) (Or.inl ⟨by rfl, ?_⟩) (by assumption) ?_
               rotate_left
               focus (intro wq hSq; (try dsimp only at hSq); go_simp; (try (with_reducible rfl)); done))
            | (refine wpAnyH_take (i := 10) (v := undef) rfl (by kernel_rfl) (by kernel_rfl) (by kernel_rfl) (fun _ _ _ h => h) (Or.inr ⟨by rfl, rfl⟩) (by assumption) ?_)
            | fail "take 10")
          try simp only [Act.put, List.setIfInBounds_toArray, List.set_cons_zero, List.set_cons_succ, List.getElem_toArray, List.getElem_cons_zero, List.getElem_cons_succ]
          (first
            | (refine wpAnyH_take (i := 11) (v := ?_) rfl (by kernel_rfl) (by kernel_rfl) (by kernel_rfl) (fun _ _ _ h => h) (Or.inl ⟨by rfl, ?_⟩) (by assumption) ?_
               rotate_left
               focus (intro wq hSq; (try dsimp only at hSq); go_simp; (try (with_reducible rfl)); done))
            | (refine wpAnyH_take (i := 11) (v := undef) rfl (by kernel_rfl) (by kernel_rfl) (by kernel_rfl) (fun _ _ _ h => h) (Or.inr ⟨by rfl, rfl⟩) (by assumption) ?_)
            | fail "take 11")
          try simp only [Act.put, List.setIfInBounds_toArray, List.set_cons_zero, List.set_cons_succ, List.getElem_toArray, List.getElem_cons_zero, List.getElem_cons_succ]
          (first
            | (refine wpAnyH_take (i := 12) (v := ?_) rfl (by kernel_rfl) (by kernel_rfl) (by kernel_rfl) (fun _ _ _ h => h) (Or.inl ⟨by rfl, ?_⟩) (by assumption) ?_
               rotate_left
               focus (intro wq hSq; (try dsimp only at hSq); go_simp; (try (with_reducible rfl)); done))
            | (refine wpAnyH_take (i := 12) (v := undef) rfl (by kernel_rfl) (by kernel_rfl) (by kernel_rfl) (fun _ _ _ h => h) (Or.inr ⟨by rfl, rfl⟩) (by assumption) ?_)
            | fail "take 12")
          try simp only [Act.put, List.setIfInBounds_toArray, List.set_cons_zero, List.set_cons_succ, List.getElem_toArray, List.getElem_cons_zero, List.getElem_cons_succ]
          (first
            | (refine wpAnyH_take (i := 13) (v := ?_) rfl (by kernel_rfl) (by kernel_rfl) (by kernel_rfl) (fun _ _ _ h => h) (Or.inl ⟨by rfl, ?_⟩) (by assumption) ?_
               rotate_left
               focus (intro wq hSq; (try dsimp only at hSq); go_simp; (try (with_reducible rfl)); done))
            | (refine wpAnyH_take (i := 13) (v := undef) rfl (by kernel_rfl) (by kernel_rfl) (by kernel_rfl) (fun _ _ _ h => h) (Or.inr ⟨by rfl, rfl⟩) (by assumption) ?_)
            | fail "take 13")
          try simp only [Act.put, List.setIfInBounds_toArray, List.set_cons_zero, List.set_cons_succ, List.getElem_toArray, List.getElem_cons_zero, List.getElem_cons_succ]
          (first
            | (refine wpAnyH_take (i := 14) (v := ?_) rfl (by kernel_rfl) (by kernel_rfl) (by kernel_rfl) (fun _ _ _ h => h) (Or.inl ⟨by rfl, ?_⟩) (by assumption) ?_
               rotate_left
               focus (intro wq hSq; (try dsimp only at hSq); go_simp; (try (with_reducible rfl)); done))
            | (refine wpAnyH_take (i := 14) (v := undef) rfl (by kernel_rfl) (by kernel_rfl) (by kernel_rfl) (fun _ _ _ h => h) (Or.inr ⟨by rfl, rfl⟩) (by assumption) ?_)
            | fail "take 14")
          try simp only [Act.put, List.setIfInBounds_toArray, List.set_cons_zero, List.set_cons_succ, List.getElem_toArray, List.getElem_cons_zero, List.getElem_cons_succ]
          (first
            | (refine wpAnyH_take (i := 15) (v := ?_) rfl (by kernel_rfl) (by kernel_rfl) (by kernel_rfl) (fun _ _ _ h => h) (Or.inl ⟨by rfl, ?_⟩) (by assumption) ?_
               rotate_left
               focus (intro wq hSq; (try dsimp only at hSq); go_simp; (try (with_reducible rfl)); done))
            | (refine wpAnyH_take (i := 15) (v := undef) rfl (by kernel_rfl) (by kernel_rfl) (by kernel_rfl) (fun _ _ _ h => h) (Or.inr ⟨by rfl, rfl⟩) (by assumption) ?_)
            | fail "take 15")
          try simp only [Act.put, List.setIfInBounds_toArray, List.set_cons_zero, List.set_cons_succ, List.getElem_toArray, List.getElem_cons_zero, List.getElem_cons_succ]
          (first
            | (refine wpAnyH_take (i := 16) (v := ?_) rfl (by kernel_rfl) (by kernel_rfl) (by kernel_rfl) (fun _ _ _ h => h) (Or.inl ⟨by rfl, ?_⟩) (by assumption) ?_
               rotate_left
               focus (intro wq hSq; (try dsimp only at hSq); go_simp; (try (with_reducible rfl)); done))
            | (refine wpAnyH_take (i := 16) (v := undef) rfl (by kernel_rfl) (by kernel_rfl) (by kernel_rfl) (fun _ _ _ h => h) (Or.inr ⟨by rfl, rfl⟩) (by assumption) ?_)
            | fail "take 16")
          try simp only [Act.put, List.setIfInBounds_toArray, List.set_cons_zero, List.set_cons_succ, List.getElem_toArray, List.getElem_cons_zero, List.getElem_cons_succ]
          (first
            | (refine wpAnyH_take (i := 17) (v := ?_) rfl (by kernel_rfl) (by kernel_rfl) (by kernel_rfl) (fun _ _ _ h => h) (Or.inl ⟨by rfl, ?_⟩) (by assumption) ?_
               rotate_left
               focus (intro wq hSq; (try dsimp only at hSq); go_simp; (try (with_reducible rfl)); done))
            | (refine wpAnyH_take (i := 17) (v := undef) rfl (by kernel_rfl) (by kernel_rfl) (by kernel_rfl) (fun _ _ _ h => h) (Or.inr ⟨by rfl, rfl⟩) (by assumption) ?_)
            | fail "take 17")
          try simp only [Act.put, List.setIfInBounds_toArray, List.set_cons_zero, List.set_cons_succ, List.getElem_toArray, List.getElem_cons_zero, List.getElem_cons_succ]
          refine wpAnyH_done (by kernel_rfl) ?_ _
          have hb8 := (Below.refl w0.heap.size w0).drew.trans hb7
          clear hHeld
          have hbw7 : Below w.heap.size w w7 := hbw0.trans (hb8.mono hbw0.size)
          go_wp2_with fail
          go_loopw [35] (fun i wr2 => ∃ j : Nat, j ≤ n ∧ i = .int .i64 j ∧ Hid (∀ q, q < j → k ≠ q → secOk (sAt xs q) = true → arcI s.f s.t ≤ distI s.f (sAt xs q).f) ∧ Below w0.heap.size w0 wr2) (fun i _ => n - (intOf i).toNat)
          case atStart => exact ⟨0, Nat.zero_le _, rfl, Lib.hid (fun q hq => absurd hq (by omega)), hb8⟩
          case round =>
            clear hb8 hb7 hbw7 k1 k2 k3
            obtain ⟨j, hj, rfl, HJ, hb9⟩ := hrel
            have hbw9 : Below w.heap.size w wr := hbw0.trans (hb9.mono hbw0.size)
            have m1 := (keepC hb9 g hg0 _).trans g1
            have m2 := (keepC hb9 g hg0 _).trans g2
            have m3 := (keepC hb9 g hg0 _).trans g3
            by_cases hlj : j < n
            · obtain ⟨b2, off2, o, e2, _, ho, d1, d2, d3⟩ := h.sec j hlj
              injection e2 with e2; injection e2 with e3 e4 _
              subst e3 e4
              have q9 := keepC hbw9 b hb
              have q0 := keepC hbw0 b hb
              have i1 : (0 : Int) ≤ (j : Int) := by omega
              have i9 : (j : Int) < (n : Int) := by omega
              have hos := sAt_eq ho
              have hx : Below w0.heap.size w0 (wr.alloc (.cells #[.int .i64 o.f, .int .i64 o.t, .string o.c] 94)) := by (repeat (first | (with_reducible assumption) | (with_reducible exact Below.refl _ _) | exact Nat.le_refl _ | exact Below.size (by with_reducible assumption) | (with_reducible refine Below.drew ?_) | (with_reducible refine below_drewN ?_ _) | (with_reducible refine Below.alloc ?_ ?_ _) | (with_reducible refine Below.setCell ?_ ?_ _) | (with_reducible refine le_alloc ?_ _) | (with_reducible refine le_set ?_ _ _) | (with_reducible refine le_drew ?_) | (with_reducible refine le_drewN ?_ _) | omega | (dsimp only; omega)))
              have Hos := Lib.hid hos; clear hos
              have Ho := Lib.hid ho; clear ho
              by_cases hjk : j = k
              · have e0 : ((j : Int) != (k : Int)) = false := by rw [hjk]; simp
                have Hjk := Lib.hid hjk; clear hjk
                go_wp2_with fail
                go_roundw
                case rel =>
                  refine ⟨j + 1, by omega, by go_num, Lib.hid (fun q hq hne hoq => ?_), hx⟩
                  rcases Nat.lt_or_ge q j with h1 | h1
                  · exact HJ.out q h1 hne hoq
                  · have := Hjk.out; omega
                case measure => simp [intOf]; omega
              · have e0 : ((j : Int) != (k : Int)) = true := by simp; omega
                go_wp2_with (go_at_call 150; refine (has_c s.f s.t s.c o.f _ hf ht).mono ?_; rintro e w10 ⟨r, rfl, hr, hb10⟩; have Hr := Lib.hid hr; clear hr)
                · go_ret
                  refine ⟨ret_eq (bool_eq ?_), hbw0.trans ((hx.trans (hb10.mono hx.size)).mono hbw0.size)⟩
                  rw [← HR.out]
                  refine (secsB_no fun hP => ?_).symm
                  have h3 := hP.2.2 k (by rw [Hl.out]; exact hlt) j (by rw [Hl.out]; exact hlj) (by omega)
                  have h4 := hP.1 j (by rw [Hl.out]; exact hlj)
                  rw [Hos.out] at h4
                  rw [Hos.out, Hsk.out] at h3
                  have h5 := Hr.out (secOk_bd h4).1
                  have h6 : r = true := by assumption
                  rw [h6] at h5
                  have h7 := of_decide_eq_true h5.symm
                  omega
                · go_roundw
                  case rel =>
                    refine ⟨j + 1, by omega, by go_num, Lib.hid (fun q hq hne hoq => ?_), hx.trans (hb10.mono hx.size)⟩
                    rcases Nat.lt_or_ge q j with h1 | h1
                    · exact HJ.out q h1 hne hoq
                    · obtain rfl : q = j := by omega
                      rw [Hos.out] at hoq ⊢
                      have h5 := Hr.out (secOk_bd hoq).1
                      have h6 : r = false := by assumption
                      rw [h6] at h5
                      have h7 := of_decide_eq_false h5.symm
                      omega
                  case measure => simp [intOf]; omega
            · have harc := arc_bd s.f s.t
              go_wp2_with (go_at_call 151; refine (arc_c s.f s.t s.c _ hf ht).mono ?_; rintro e w11 ⟨rfl, hb11⟩)
              go_roundw
              case rel =>
                refine ⟨k + 1, by omega, by go_num, by rw [Hnx.out], Lib.hid (fun r hr => ?_), HN, Lib.hid (fun r hr q hq hne hoq => ?_), hbw9.trans (hb11.mono hbw9.size)⟩
                · rcases Nat.lt_or_ge r k with h1 | h1
                  · exact H1.out r h1
                  · obtain rfl : r = k := by omega
                    rw [Hsk.out]; exact Hok.out
                · rcases Nat.lt_or_ge r k with h1 | h1
                  · exact H3.out r h1 q hq hne hoq
                  · obtain rfl : r = k := by omega
                    rw [Hsk.out]
                    exact HJ.out q (by omega) hne hoq
              case measure => simp [intOf]; omega
        · obtain ⟨p, hpx, hpc⟩ := hp hk0
          clear hp
          have hps := sAt_eq hpx
          have k0 : (0 : Int) < (k : Int) := by omega
          obtain ⟨kp, hkp⟩ : ∃ kp, k - 1 = kp := ⟨_, rfl⟩
          have hwp : IntKind.i64.wrap ((k : Int) - 1) = (kp : Int) := by rw [IntWalk.i64_in _ (by omega)]; omega
          have i2 : (kp : Int) < (n : Int) := by omega
          rw [hkp] at hpc
          have Hkp := Lib.hid hkp; clear hkp
          have Hpx := Lib.hid hpx; clear hpx
          have Hps := Lib.hid hps; clear hps
          by_cases hge : s.f ≤ p.f
          · have hR : R = false := by
              rw [← HR.out]; refine secsB_no fun hP => ?_
              have := hP.2.1 k (by rw [Hl.out]; exact hlt) hk0
              rw [Hsk.out, Hps.out] at this; omega
            have Hok := Lib.hid hok; clear hok
            have HR0 := Lib.hid hR; clear hR
            go_wp2
            try rw [hw0]
            try rw [hg]
            clear hw0 hg q1 c1 c2 c3
            have e1 : ∀ {w' : World}, Below w0.heap.size w0 w' → (Below w0.heap.size w0 w' ∧ (∀ x, w'.cell? ⟨b, x, none⟩ = w0.cell? ⟨b, x, none⟩) ∧ (∀ x, w'.cell? ⟨g, x, none⟩ = w0.cell? ⟨g, x, none⟩)) := fun hbb => ⟨hbb, keepC hbb _ hb0, keepC hbb _ hg0⟩
            refine wp_region_held_drew (S := fun w' => Below w0.heap.size w0 w' ∧ (∀ x, w'.cell? ⟨b, x, none⟩ = w0.cell? ⟨b, x, none⟩) ∧ (∀ x, w'.cell? ⟨g, x, none⟩ = w0.cell? ⟨g, x, none⟩)) (by kernel_rfl) (e1 (Below.refl _ _).drew) (fun hHeld => ?_)
            (first
              | (refine wpAnyH_take (i := 0) (v := ?_) rfl (by kernel_rfl) (by kernel_rfl) (by kernel_rfl) (fun _ _ _ h => h) (Or.inl ⟨by rfl, ?_⟩) (by assumption) ?_
                 rotate_left
                 focus (intro wq hSq; (try dsimp only at hSq); go_simp; (try (with_reducible rfl)); done))
              | (refine wpAnyH_take (i := 0) (v := undef) rfl (by kernel_rfl) (by kernel_rfl) (by kernel_rfl) (fun _ _ _ h => h) (Or.inr ⟨by rfl, rfl⟩) (by assumption) ?_)
              | fail "take 0")
            try simp only [Act.put, List.setIfInBounds_toArray, List.set_cons_zero, List.set_cons_succ, List.getElem_toArray, List.getElem_cons_zero]
            refine wpAnyH_ready (rs := [1]) (by kernel_rfl) (by simp) ?_
            refine AllReadyH.cons (o := _) rfl (fun K hK => ?_) AllReadyH.nil
            go_simp
            refine (HV.out _).mono ?_; rintro e w7 ⟨rfl, hb7⟩
            refine hK.out _ _ ?_ (fun hHeld => ?_)
            · exact e1 ((Below.refl _ _).drew.trans hb7)
            clear hK K
            try simp only [Act.put, List.setIfInBounds_toArray, List.set_cons_zero, List.set_cons_succ, List.getElem_toArray, List.getElem_cons_zero, List.getElem_cons_succ]
            (first
              | (refine wpAnyH_take (i := 2) (v := ?_) rfl (by kernel_rfl) (by kernel_rfl) (by kernel_rfl) (fun _ _ _ h => h) (Or.inl ⟨by rfl, ?_⟩) (by assumption) ?_
                 rotate_left
                 focus (intro wq hSq; (try dsimp only at hSq); go_simp; (try (with_reducible rfl)); done))
              | (refine wpAnyH_take (i := 2) (v := undef) rfl (by kernel_rfl) (by kernel_rfl) (by kernel_rfl) (fun _ _ _ h => h) (Or.inr ⟨by rfl, rfl⟩) (by assumption) ?_)
              | fail "take 2")
            try simp only [Act.put, List.setIfInBounds_toArray, List.set_cons_zero, List.set_cons_succ, List.getElem_toArray, List.getElem_cons_zero, List.getElem_cons_succ]
            (first
              | (refine wpAnyH_take (i := 3) (v := ?_) rfl (by kernel_rfl) (by kernel_rfl) (by kernel_rfl) (fun _ _ _ h => h) (Or.inl ⟨by rfl, ?_⟩) (by assumption) ?_
                 rotate_left
                 focus (intro wq hSq; (try dsimp only at hSq); go_simp; (try (with_reducible rfl)); done))
              | (refine wpAnyH_take (i := 3) (v := undef) rfl (by kernel_rfl) (by kernel_rfl) (by kernel_rfl) (fun _ _ _ h => h) (Or.inr ⟨by rfl, rfl⟩) (by assumption) ?_)
              | fail "take 3")
            try simp only [Act.put, List.setIfInBounds_toArray, List.set_cons_zero, List.set_cons_succ, List.getElem_toArray, List.getElem_cons_zero, List.getElem_cons_succ]
            (first
              | (refine wpAnyH_take (i := 4) (v := ?_) rfl (by kernel_rfl) (by kernel_rfl) (by kernel_rfl) (fun _ _ _ h => h) (Or.inl ⟨by rfl, ?_⟩) (by assumption) ?_
                 rotate_left
                 focus (intro wq hSq; (try dsimp only at hSq); go_simp; (try (with_reducible rfl)); done))
              | (refine wpAnyH_take (i := 4) (v := undef) rfl (by kernel_rfl) (by kernel_rfl) (by kernel_rfl) (fun _ _ _ h => h) (Or.inr ⟨by rfl, rfl⟩) (by assumption) ?_)
              | fail "take 4")
            try simp only [Act.put, List.setIfInBounds_toArray, List.set_cons_zero, List.set_cons_succ, List.getElem_toArray, List.getElem_cons_zero, List.getElem_cons_succ]
            (first
              | (refine wpAnyH_take (i := 5) (v := ?_) rfl (by kernel_rfl) (by kernel_rfl) (by kernel_rfl) (fun _ _ _ h => h) (Or.inl ⟨by rfl, ?_⟩) (by assumption) ?_
                 rotate_left
                 focus (intro wq hSq; (try dsimp only at hSq); go_simp; (try (with_reducible rfl)); done))
              | (refine wpAnyH_take (i := 5) (v := undef) rfl (by kernel_rfl) (by kernel_rfl) (by kernel_rfl) (fun _ _ _ h => h) (Or.inr ⟨by rfl, rfl⟩) (by assumption) ?_)
              | fail "take 5")
            try simp only [Act.put, List.setIfInBounds_toArray, List.set_cons_zero, List.set_cons_succ, List.getElem_toArray, List.getElem_cons_zero, List.getElem_cons_succ]
            (first
              | (refine wpAnyH_take (i := 6) (v := ?_) rfl (by kernel_rfl) (by kernel_rfl) (by kernel_rfl) (fun _ _ _ h => h) (Or.inl ⟨by rfl, ?_⟩) (by assumption) ?_
                 rotate_left
                 focus (intro wq hSq; (try dsimp only at hSq); go_simp; (try (with_reducible rfl)); done))
              | (refine wpAnyH_take (i := 6) (v := undef) rfl (by kernel_rfl) (by kernel_rfl) (by kernel_rfl) (fun _ _ _ h => h) (Or.inr ⟨by rfl, rfl⟩) (by assumption) ?_)
              | fail "take 6")
            try simp only [Act.put, List.setIfInBounds_toArray, List.set_cons_zero, List.set_cons_succ, List.getElem_toArray, List.getElem_cons_zero, List.getElem_cons_succ]
            (first
              | (refine wpAnyH_take (i := 7) (v := ?_) rfl (by kernel_rfl) (by kernel_rfl) (by kernel_rfl) (fun _ _ _ h => h) (Or.inl ⟨by rfl, ?_⟩) (by assumption) ?_
                 rotate_left
                 focus (intro wq hSq; (try dsimp only at hSq); go_simp; (try (with_reducible rfl)); done))
              | (refine wpAnyH_take (i := 7) (v := undef) rfl (by kernel_rfl) (by kernel_rfl) (by kernel_rfl) (fun _ _ _ h => h) (Or.inr ⟨by rfl, rfl⟩) (by assumption) ?_)
              | fail "take 7")
            try simp only [Act.put, List.setIfInBounds_toArray, List.set_cons_zero, List.set_cons_succ, List.getElem_toArray, List.getElem_cons_zero, List.getElem_cons_succ]
            (first
              | (refine wpAnyH_take (i := 8) (v := ?_) rfl (by kernel_rfl) (by kernel_rfl) (by kernel_rfl) (fun _ _ _ h => h) (Or.inl ⟨by rfl, ?_⟩) (by assumption) ?_
                 rotate_left
                 focus (intro wq hSq; (try dsimp only at hSq); go_simp; (try (with_reducible rfl)); done))
              | (refine wpAnyH_take (i := 8) (v := undef) rfl (by kernel_rfl) (by kernel_rfl) (by kernel_rfl) (fun _ _ _ h => h) (Or.inr ⟨by rfl, rfl⟩) (by assumption) ?_)
              | fail "take 8")
            try simp only [Act.put, List.setIfInBounds_toArray, List.set_cons_zero, List.set_cons_succ, List.getElem_toArray, List.getElem_cons_zero, List.getElem_cons_succ]
            (first
              | (refine wpAnyH_take (i := 9) (v := ?_) rfl (by kernel_rfl) (by kernel_rfl) (by kernel_rfl) (fun _ _ _ h => h) (Or.inl ⟨by rfl, ?_⟩) (by assumption) ?_
                 rotate_left
                 focus (intro wq hSq; (try dsimp only at hSq); go_simp; (try (with_reducible rfl)); done))
              | (refine wpAnyH_take (i := 9) (v := undef) rfl (by kernel_rfl) (by kernel_rfl) (by kernel_rfl) (fun _ _ _ h => h) (Or.inr ⟨by rfl, rfl⟩) (by assumption) ?_)
              | fail "take 9")
            try simp only [Act.put, List.setIfInBounds_toArray, List.set_cons_zero, List.set_cons_succ, List.getElem_toArray, List.getElem_cons_zero, List.getElem_cons_succ]
            (first
              | (refine wpAnyH_take (i := 10) (v := ?_) rfl (by kernel_rfl) (by kernel_rfl) (by kernel_rfl) (fun _ _ _ h => h) (Or.inl ⟨by rfl, ?_⟩) (by assumption) ?_
                 rotate_left
                 focus (intro wq hSq; (try dsimp only at hSq); go_simp; (try (with_reducible rfl)); done))
              | (refine wpAnyH_take (i := 10) (v := undef) rfl (by kernel_rfl) (by kernel_rfl) (by kernel_rfl) (fun _ _ _ h => h) (Or.inr ⟨by rfl, rfl⟩) (by assumption) ?_)
              | fail "take 10")
            try simp only [Act.put, List.setIfInBounds_toArray, List.set_cons_zero, List.set_cons_succ, List.getElem_toArray, List.getElem_cons_zero, List.getElem_cons_succ]
            (first
              | (refine wpAnyH_take (i := 11) (v := ?_) rfl (by kernel_rfl) (by kernel_rfl) (by kernel_rfl) (fun _ _ _ h => h) (Or.inl ⟨by rfl, ?_⟩) (by assumption) ?_
                 rotate_left
                 focus (intro wq hSq; (try dsimp only at hSq); go_simp; (try (with_reducible rfl)); done))
              | (refine wpAnyH_take (i := 11) (v := undef) rfl (by kernel_rfl) (by kernel_rfl) (by kernel_rfl) (fun _ _ _ h => h) (Or.inr ⟨by rfl, rfl⟩) (by assumption) ?_)
              | fail "take 11")
            try simp only [Act.put, List.setIfInBounds_toArray, List.set_cons_zero, List.set_cons_succ, List.getElem_toArray, List.getElem_cons_zero, List.getElem_cons_succ]
            (first
              | (refine wpAnyH_take (i := 12) (v := ?_) rfl (by kernel_rfl) (by kernel_rfl) (by kernel_rfl) (fun _ _ _ h => h) (Or.inl ⟨by rfl, ?_⟩) (by assumption) ?_
                 rotate_left
                 focus (intro wq hSq; (try dsimp only at hSq); go_simp; (try (with_reducible rfl)); done))
              | (refine wpAnyH_take (i := 12) (v := undef) rfl (by kernel_rfl) (by kernel_rfl) (by kernel_rfl) (fun _ _ _ h => h) (Or.inr ⟨by rfl, rfl⟩) (by assumption) ?_)
              | fail "take 12")
            try simp only [Act.put, List.setIfInBounds_toArray, List.set_cons_zero, List.set_cons_succ, List.getElem_toArray, List.getElem_cons_zero, List.getElem_cons_succ]
            (first
              | (refine wpAnyH_take (i := 13) (v := ?_) rfl (by kernel_rfl) (by kernel_rfl) (by kernel_rfl) (fun _ _ _ h => h) (Or.inl ⟨by rfl, ?_⟩) (by assumption) ?_
                 rotate_left
                 focus (intro wq hSq; (try dsimp only at hSq); go_simp; (try (with_reducible rfl)); done))
              | (refine wpAnyH_take (i := 13) (v := undef) rfl (by kernel_rfl) (by kernel_rfl) (by kernel_rfl) (fun _ _ _ h => h) (Or.inr ⟨by rfl, rfl⟩) (by assumption) ?_)
              | fail "take 13")
            try simp only [Act.put, List.setIfInBounds_toArray, List.set_cons_zero, List.set_cons_succ, List.getElem_toArray, List.getElem_cons_zero, List.getElem_cons_succ]
            (first
              | (refine wpAnyH_take (i := 14) (v := ?_) rfl (by kernel_rfl) (by kernel_rfl) (by kernel_rfl) (fun _ _ _ h => h) (Or.inl ⟨by rfl, ?_⟩) (by assumption) ?_
                 rotate_left
                 focus (intro wq hSq; (try dsimp only at hSq); go_simp; (try (with_reducible rfl)); done))
              | (refine wpAnyH_take (i := 14) (v := undef) rfl (by kernel_rfl) (by kernel_rfl) (by kernel_rfl) (fun _ _ _ h => h) (Or.inr ⟨by rfl, rfl⟩) (by assumption) ?_)
              | fail "take 14")
            try simp only [Act.put, List.setIfInBounds_toArray, List.set_cons_zero, List.set_cons_succ, List.getElem_toArray, List.getElem_cons_zero, List.getElem_cons_succ]
            (first
              | (refine wpAnyH_take (i := 15) (v := ?_) rfl (by kernel_rfl) (by kernel_rfl) (by kernel_rfl) (fun _ _ _ h => h) (Or.inl ⟨by rfl, ?_⟩) (by assumption) ?_
                 rotate_left
                 focus (intro wq hSq; (try dsimp only at hSq); go_simp; (try (with_reducible rfl)); done))
              | (refine wpAnyH_take (i := 15) (v := undef) rfl (by kernel_rfl) (by kernel_rfl) (by kernel_rfl) (fun _ _ _ h => h) (Or.inr ⟨by rfl, rfl⟩) (by assumption) ?_)
              | fail "take 15")
            try simp only [Act.put, List.setIfInBounds_toArray, List.set_cons_zero, List.set_cons_succ, List.getElem_toArray, List.getElem_cons_zero, List.getElem_cons_succ]
            (first
              | (refine wpAnyH_take (i := 16) (v := ?_) rfl (by kernel_rfl) (by kernel_rfl) (by kernel_rfl) (fun _ _ _ h => h) (Or.inl ⟨by rfl, ?_⟩) (by assumption) ?_
                 rotate_left
                 focus (intro wq hSq; (try dsimp only at hSq); go_simp; (try (with_reducible rfl)); done))
              | (refine wpAnyH_take (i := 16) (v := undef) rfl (by kernel_rfl) (by kernel_rfl) (by kernel_rfl) (fun _ _ _ h => h) (Or.inr ⟨by rfl, rfl⟩) (by assumption) ?_)
              | fail "take 16")
            try simp only [Act.put, List.setIfInBounds_toArray, List.set_cons_zero, List.set_cons_succ, List.getElem_toArray, List.getElem_cons_zero, List.getElem_cons_succ]
            (first
              | (refine wpAnyH_take (i := 17) (v := ?_) rfl (by kernel_rfl) (by kernel_rfl) (by kernel_rfl) (fun _ _ _ h => h) (Or.inl ⟨by rfl, ?_⟩) (by assumption) ?_
                 rotate_left
                 focus (intro wq hSq; (try dsimp only at hSq); go_simp; (try (with_reducible rfl)); done))
              | (refine wpAnyH_take (i := 17) (v := undef) rfl (by kernel_rfl) (by kernel_rfl) (by kernel_rfl) (fun _ _ _ h => h) (Or.inr ⟨by rfl, rfl⟩) (by assumption) ?_)
              | fail "take 17")
            try simp only [Act.put, List.setIfInBounds_toArray, List.set_cons_zero, List.set_cons_succ, List.getElem_toArray, List.getElem_cons_zero, List.getElem_cons_succ]
            refine wpAnyH_done (by kernel_rfl) ?_ _
            have hb8 := (Below.refl w0.heap.size w0).drew.trans hb7
            clear hHeld
            go_wp2_with fail
            go_ret
            exact ⟨ret_eq (bool_eq HR0.out.symm), hbw0.trans (hb8.mono hbw0.size)⟩
          · have HN : Hid (∀ r, r < k + 1 → 0 < r → (sAt xs (r - 1)).f < (sAt xs r).f) := Lib.hid fun r a b => by
              rcases Nat.lt_or_ge r k with h1 | h1
              · exact H2.out r h1 b
              · obtain rfl : r = k := by omega
                rw [Hsk.out, Hps.out]; omega
            have hge' : ¬ s.f ≤ p.f := hge
            have Hok := Lib.hid hok; clear hok
            go_wp2
            try rw [hw0]
            try rw [hg]
            clear hw0 hg q1 c1 c2 c3
            have e1 : ∀ {w' : World}, Below w0.heap.size w0 w' → (Below w0.heap.size w0 w' ∧ (∀ x, w'.cell? ⟨b, x, none⟩ = w0.cell? ⟨b, x, none⟩) ∧ (∀ x, w'.cell? ⟨g, x, none⟩ = w0.cell? ⟨g, x, none⟩)) := fun hbb => ⟨hbb, keepC hbb _ hb0, keepC hbb _ hg0⟩
            refine wp_region_held_drew (S := fun w' => Below w0.heap.size w0 w' ∧ (∀ x, w'.cell? ⟨b, x, none⟩ = w0.cell? ⟨b, x, none⟩) ∧ (∀ x, w'.cell? ⟨g, x, none⟩ = w0.cell? ⟨g, x, none⟩)) (by kernel_rfl) (e1 (Below.refl _ _).drew) (fun hHeld => ?_)
            (first
              | (refine wpAnyH_take (i := 0) (v := ?_) rfl (by kernel_rfl) (by kernel_rfl) (by kernel_rfl) (fun _ _ _ h => h) (Or.inl ⟨by rfl, ?_⟩) (by assumption) ?_
                 rotate_left
                 focus (intro wq hSq; (try dsimp only at hSq); go_simp; (try (with_reducible rfl)); done))
              | (refine wpAnyH_take (i := 0) (v := undef) rfl (by kernel_rfl) (by kernel_rfl) (by kernel_rfl) (fun _ _ _ h => h) (Or.inr ⟨by rfl, rfl⟩) (by assumption) ?_)
              | fail "take 0")
            try simp only [Act.put, List.setIfInBounds_toArray, List.set_cons_zero, List.set_cons_succ, List.getElem_toArray, List.getElem_cons_zero]
            refine wpAnyH_ready (rs := [1]) (by kernel_rfl) (by simp) ?_
            refine AllReadyH.cons (o := _) rfl (fun K hK => ?_) AllReadyH.nil
            go_simp
            refine (HV.out _).mono ?_; rintro e w7 ⟨rfl, hb7⟩
            refine hK.out _ _ ?_ (fun hHeld => ?_)
            · exact e1 ((Below.refl _ _).drew.trans hb7)
            clear hK K
            try simp only [Act.put, List.setIfInBounds_toArray, List.set_cons_zero, List.set_cons_succ, List.getElem_toArray, List.getElem_cons_zero, List.getElem_cons_succ]
            (first
              | (refine wpAnyH_take (i := 2) (v := ?_) rfl (by kernel_rfl) (by kernel_rfl) (by kernel_rfl) (fun _ _ _ h => h) (Or.inl ⟨by rfl, ?_⟩) (by assumption) ?_
                 rotate_left
                 focus (intro wq hSq; (try dsimp only at hSq); go_simp; (try (with_reducible rfl)); done))
              | (refine wpAnyH_take (i := 2) (v := undef) rfl (by kernel_rfl) (by kernel_rfl) (by kernel_rfl) (fun _ _ _ h => h) (Or.inr ⟨by rfl, rfl⟩) (by assumption) ?_)
              | fail "take 2")
            try simp only [Act.put, List.setIfInBounds_toArray, List.set_cons_zero, List.set_cons_succ, List.getElem_toArray, List.getElem_cons_zero, List.getElem_cons_succ]
            (first
              | (refine wpAnyH_take (i := 3) (v := ?_) rfl (by kernel_rfl) (by kernel_rfl) (by kernel_rfl) (fun _ _ _ h => h) (Or.inl ⟨by rfl, ?_⟩) (by assumption) ?_
                 rotate_left
                 focus (intro wq hSq; (try dsimp only at hSq); go_simp; (try (with_reducible rfl)); done))
              | (refine wpAnyH_take (i := 3) (v := undef) rfl (by kernel_rfl) (by kernel_rfl) (by kernel_rfl) (fun _ _ _ h => h) (Or.inr ⟨by rfl, rfl⟩) (by assumption) ?_)
              | fail "take 3")
            try simp only [Act.put, List.setIfInBounds_toArray, List.set_cons_zero, List.set_cons_succ, List.getElem_toArray, List.getElem_cons_zero, List.getElem_cons_succ]
            (first
              | (refine wpAnyH_take (i := 4) (v := ?_) rfl (by kernel_rfl) (by kernel_rfl) (by kernel_rfl) (fun _ _ _ h => h) (Or.inl ⟨by rfl, ?_⟩) (by assumption) ?_
                 rotate_left
                 focus (intro wq hSq; (try dsimp only at hSq); go_simp; (try (with_reducible rfl)); done))
              | (refine wpAnyH_take (i := 4) (v := undef) rfl (by kernel_rfl) (by kernel_rfl) (by kernel_rfl) (fun _ _ _ h => h) (Or.inr ⟨by rfl, rfl⟩) (by assumption) ?_)
              | fail "take 4")
            try simp only [Act.put, List.setIfInBounds_toArray, List.set_cons_zero, List.set_cons_succ, List.getElem_toArray, List.getElem_cons_zero, List.getElem_cons_succ]
            (first
              | (refine wpAnyH_take (i := 5) (v := ?_) rfl (by kernel_rfl) (by kernel_rfl) (by kernel_rfl) (fun _ _ _ h => h) (Or.inl ⟨by rfl, ?_⟩) (by assumption) ?_
                 rotate_left
                 focus (intro wq hSq; (try dsimp only at hSq); go_simp; (try (with_reducible rfl)); done))
              | (refine wpAnyH_take (i := 5) (v := undef) rfl (by kernel_rfl) (by kernel_rfl) (by kernel_rfl) (fun _ _ _ h => h) (Or.inr ⟨by rfl, rfl⟩) (by assumption) ?_)
              | fail "take 5")
            try simp only [Act.put, List.setIfInBounds_toArray, List.set_cons_zero, List.set_cons_succ, List.getElem_toArray, List.getElem_cons_zero, List.getElem_cons_succ]
            (first
              | (refine wpAnyH_take (i := 6) (v := ?_) rfl (by kernel_rfl) (by kernel_rfl) (by kernel_rfl) (fun _ _ _ h => h) (Or.inl ⟨by rfl, ?_⟩) (by assumption) ?_
                 rotate_left
                 focus (intro wq hSq; (try dsimp only at hSq); go_simp; (try (with_reducible rfl)); done))
              | (refine wpAnyH_take (i := 6) (v := undef) rfl (by kernel_rfl) (by kernel_rfl) (by kernel_rfl) (fun _ _ _ h => h) (Or.inr ⟨by rfl, rfl⟩) (by assumption) ?_)
              | fail "take 6")
            try simp only [Act.put, List.setIfInBounds_toArray, List.set_cons_zero, List.set_cons_succ, List.getElem_toArray, List.getElem_cons_zero, List.getElem_cons_succ]
            (first
              | (refine wpAnyH_take (i := 7) (v := ?_) rfl (by kernel_rfl) (by kernel_rfl) (by kernel_rfl) (fun _ _ _ h => h) (Or.inl ⟨by rfl, ?_⟩) (by assumption) ?_
                 rotate_left
                 focus (intro wq hSq; (try dsimp only at hSq); go_simp; (try (with_reducible rfl)); done))
              | (refine wpAnyH_take (i := 7) (v := undef) rfl (by kernel_rfl) (by kernel_rfl) (by kernel_rfl) (fun _ _ _ h => h) (Or.inr ⟨by rfl, rfl⟩) (by assumption) ?_)
              | fail "take 7")
            try simp only [Act.put, List.setIfInBounds_toArray, List.set_cons_zero, List.set_cons_succ, List.getElem_toArray, List.getElem_cons_zero, List.getElem_cons_succ]
            (first
              | (refine wpAnyH_take (i := 8) (v := ?_) rfl (by kernel_rfl) (by kernel_rfl) (by kernel_rfl) (fun _ _ _ h => h) (Or.inl ⟨by rfl, ?_⟩) (by assumption) ?_
                 rotate_left
                 focus (intro wq hSq; (try dsimp only at hSq); go_simp; (try (with_reducible rfl)); done))
              | (refine wpAnyH_take (i := 8) (v := undef) rfl (by kernel_rfl) (by kernel_rfl) (by kernel_rfl) (fun _ _ _ h => h) (Or.inr ⟨by rfl, rfl⟩) (by assumption) ?_)
              | fail "take 8")
            try simp only [Act.put, List.setIfInBounds_toArray, List.set_cons_zero, List.set_cons_succ, List.getElem_toArray, List.getElem_cons_zero, List.getElem_cons_succ]
            (first
              | (refine wpAnyH_take (i := 9) (v := ?_) rfl (by kernel_rfl) (by kernel_rfl) (by kernel_rfl) (fun _ _ _ h => h) (Or.inl ⟨by rfl, ?_⟩) (by assumption) ?_
                 rotate_left
                 focus (intro wq hSq; (try dsimp only at hSq); go_simp; (try (with_reducible rfl)); done))
              | (refine wpAnyH_take (i := 9) (v := undef) rfl (by kernel_rfl) (by kernel_rfl) (by kernel_rfl) (fun _ _ _ h => h) (Or.inr ⟨by rfl, rfl⟩) (by assumption) ?_)
              | fail "take 9")
            try simp only [Act.put, List.setIfInBounds_toArray, List.set_cons_zero, List.set_cons_succ, List.getElem_toArray, List.getElem_cons_zero, List.getElem_cons_succ]
            (first
              | (refine wpAnyH_take (i := 10) (v := ?_) rfl (by kernel_rfl) (by kernel_rfl) (by kernel_rfl) (fun _ _ _ h => h) (Or.inl ⟨by rfl, ?_⟩) (by assumption) ?_
                 rotate_left
                 focus (intro wq hSq; (try dsimp only at hSq); go_simp; (try (with_reducible rfl)); done))
              | (refine wpAnyH_take (i := 10) (v := undef) rfl (by kernel_rfl) (by kernel_rfl) (by kernel_rfl) (fun _ _ _ h => h) (Or.inr ⟨by rfl, rfl⟩) (by assumption) ?_)
              | fail "take 10")
            try simp only [Act.put, List.setIfInBounds_toArray, List.set_cons_zero, List.set_cons_succ, List.getElem_toArray, List.getElem_cons_zero, List.getElem_cons_succ]
            (first
              | (refine wpAnyH_take (i := 11) (v := ?_) rfl (by kernel_rfl) (by kernel_rfl) (by kernel_rfl) (fun _ _ _ h => h) (Or.inl ⟨by rfl, ?_⟩) (by assumption) ?_
                 rotate_left
                 focus (intro wq hSq; (try dsimp only at hSq); go_simp; (try (with_reducible rfl)); done))
              | (refine wpAnyH_take (i := 11) (v := undef) rfl (by kernel_rfl) (by kernel_rfl) (by kernel_rfl) (fun _ _ _ h => h) (Or.inr ⟨by rfl, rfl⟩) (by assumption) ?_)
              | fail "take 11")
            try simp only [Act.put, List.setIfInBounds_toArray, List.set_cons_zero, List.set_cons_succ, List.getElem_toArray, List.getElem_cons_zero, List.getElem_cons_succ]
            (first
              | (refine wpAnyH_take (i := 12) (v := ?_) rfl (by kernel_rfl) (by kernel_rfl) (by kernel_rfl) (fun _ _ _ h => h) (Or.inl ⟨by rfl, ?_⟩) (by assumption) ?_
                 rotate_left
                 focus (intro wq hSq; (try dsimp only at hSq); go_simp; (try (with_reducible rfl)); done))
              | (refine wpAnyH_take (i := 12) (v := undef) rfl (by kernel_rfl) (by kernel_rfl) (by kernel_rfl) (fun _ _ _ h => h) (Or.inr ⟨by rfl, rfl⟩) (by assumption) ?_)
              | fail "take 12")
            try simp only [Act.put, List.setIfInBounds_toArray, List.set_cons_zero, List.set_cons_succ, List.getElem_toArray, List.getElem_cons_zero, List.getElem_cons_succ]
            (first
              | (refine wpAnyH_take (i := 13) (v := ?_) rfl (by kernel_rfl) (by kernel_rfl) (by kernel_rfl) (fun _ _ _ h => h) (Or.inl ⟨by rfl, ?_⟩) (by assumption) ?_
                 rotate_left
                 focus (intro wq hSq; (try dsimp only at hSq); go_simp; (try (with_reducible rfl)); done))
              | (refine wpAnyH_take (i := 13) (v := undef) rfl (by kernel_rfl) (by kernel_rfl) (by kernel_rfl) (fun _ _ _ h => h) (Or.inr ⟨by rfl, rfl⟩) (by assumption) ?_)
              | fail "take 13")
            try simp only [Act.put, List.setIfInBounds_toArray, List.set_cons_zero, List.set_cons_succ, List.getElem_toArray, List.getElem_cons_zero, List.getElem_cons_succ]
            (first
              | (refine wpAnyH_take (i := 14) (v := ?_) rfl (by kernel_rfl) (by kernel_rfl) (by kernel_rfl) (fun _ _ _ h => h) (Or.inl ⟨by rfl, ?_⟩) (by assumption) ?_
                 rotate_left
                 focus (intro wq hSq; (try dsimp only at hSq); go_simp; (try (with_reducible rfl)); done))
              | (refine wpAnyH_take (i := 14) (v := undef) rfl (by kernel_rfl) (by kernel_rfl) (by kernel_rfl) (fun _ _ _ h => h) (Or.inr ⟨by rfl, rfl⟩) (by assumption) ?_)
              | fail "take 14")
            try simp only [Act.put, List.setIfInBounds_toArray, List.set_cons_zero, List.set_cons_succ, List.getElem_toArray, List.getElem_cons_zero, List.getElem_cons_succ]
            (first
              | (refine wpAnyH_take (i := 15) (v := ?_) rfl (by kernel_rfl) (by kernel_rfl) (by kernel_rfl) (fun _ _ _ h => h) (Or.inl ⟨by rfl, ?_⟩) (by assumption) ?_
                 rotate_left
                 focus (intro wq hSq; (try dsimp only at hSq); go_simp; (try (with_reducible rfl)); done))
              | (refine wpAnyH_take (i := 15) (v := undef) rfl (by kernel_rfl) (by kernel_rfl) (by kernel_rfl) (fun _ _ _ h => h) (Or.inr ⟨by rfl, rfl⟩) (by assumption) ?_)
              | fail "take 15")
            try simp only [Act.put, List.setIfInBounds_toArray, List.set_cons_zero, List.set_cons_succ, List.getElem_toArray, List.getElem_cons_zero, List.getElem_cons_succ]
            (first
              | (refine wpAnyH_take (i := 16) (v := ?_) rfl (by kernel_rfl) (by kernel_rfl) (by kernel_rfl) (fun _ _ _ h => h) (Or.inl ⟨by rfl, ?_⟩) (by assumption) ?_
                 rotate_left
                 focus (intro wq hSq; (try dsimp only at hSq); go_simp; (try (with_reducible rfl)); done))
              | (refine wpAnyH_take (i := 16) (v := undef) rfl (by kernel_rfl) (by kernel_rfl) (by kernel_rfl) (fun _ _ _ h => h) (Or.inr ⟨by rfl, rfl⟩) (by assumption) ?_)
              | fail "take 16")
            try simp only [Act.put, List.setIfInBounds_toArray, List.set_cons_zero, List.set_cons_succ, List.getElem_toArray, List.getElem_cons_zero, List.getElem_cons_succ]
            (first
              | (refine wpAnyH_take (i := 17) (v := ?_) rfl (by kernel_rfl) (by kernel_rfl) (by kernel_rfl) (fun _ _ _ h => h) (Or.inl ⟨by rfl, ?_⟩) (by assumption) ?_
                 rotate_left
                 focus (intro wq hSq; (try dsimp only at hSq); go_simp; (try (with_reducible rfl)); done))
              | (refine wpAnyH_take (i := 17) (v := undef) rfl (by kernel_rfl) (by kernel_rfl) (by kernel_rfl) (fun _ _ _ h => h) (Or.inr ⟨by rfl, rfl⟩) (by assumption) ?_)
              | fail "take 17")
            try simp only [Act.put, List.setIfInBounds_toArray, List.set_cons_zero, List.set_cons_succ, List.getElem_toArray, List.getElem_cons_zero, List.getElem_cons_succ]
            refine wpAnyH_done (by kernel_rfl) ?_ _
            have hb8 := (Below.refl w0.heap.size w0).drew.trans hb7
            clear hHeld
            have hbw7 : Below w.heap.size w w7 := hbw0.trans (hb8.mono hbw0.size)
            go_wp2_with fail
            go_loopw [35] (fun i wr2 => ∃ j : Nat, j ≤ n ∧ i = .int .i64 j ∧ Hid (∀ q, q < j → k ≠ q → secOk (sAt xs q) = true → arcI s.f s.t ≤ distI s.f (sAt xs q).f) ∧ Below w0.heap.size w0 wr2) (fun i _ => n - (intOf i).toNat)
            case atStart => exact ⟨0, Nat.zero_le _, rfl, Lib.hid (fun q hq => absurd hq (by omega)), hb8⟩
            case round =>
              clear hb8 hb7 hbw7 k1 k2 k3
              obtain ⟨j, hj, rfl, HJ, hb9⟩ := hrel
              have hbw9 : Below w.heap.size w wr := hbw0.trans (hb9.mono hbw0.size)
              have m1 := (keepC hb9 g hg0 _).trans g1
              have m2 := (keepC hb9 g hg0 _).trans g2
              have m3 := (keepC hb9 g hg0 _).trans g3
              by_cases hlj : j < n
              · obtain ⟨b2, off2, o, e2, _, ho, d1, d2, d3⟩ := h.sec j hlj
                injection e2 with e2; injection e2 with e3 e4 _
                subst e3 e4
                have q9 := keepC hbw9 b hb
                have q0 := keepC hbw0 b hb
                have i1 : (0 : Int) ≤ (j : Int) := by omega
                have i9 : (j : Int) < (n : Int) := by omega
                have hos := sAt_eq ho
                have hx : Below w0.heap.size w0 (wr.alloc (.cells #[.int .i64 o.f, .int .i64 o.t, .string o.c] 94)) := by (repeat (first | (with_reducible assumption) | (with_reducible exact Below.refl _ _) | exact Nat.le_refl _ | exact Below.size (by with_reducible assumption) | (with_reducible refine Below.drew ?_) | (with_reducible refine below_drewN ?_ _) | (with_reducible refine Below.alloc ?_ ?_ _) | (with_reducible refine Below.setCell ?_ ?_ _) | (with_reducible refine le_alloc ?_ _) | (with_reducible refine le_set ?_ _ _) | (with_reducible refine le_drew ?_) | (with_reducible refine le_drewN ?_ _) | omega | (dsimp only; omega)))
                have Hos := Lib.hid hos; clear hos
                have Ho := Lib.hid ho; clear ho
                by_cases hjk : j = k
                · have e0 : ((j : Int) != (k : Int)) = false := by rw [hjk]; simp
                  have Hjk := Lib.hid hjk; clear hjk
                  go_wp2_with fail
                  go_roundw
                  case rel =>
                    refine ⟨j + 1, by omega, by go_num, Lib.hid (fun q hq hne hoq => ?_), hx⟩
                    rcases Nat.lt_or_ge q j with h1 | h1
                    · exact HJ.out q h1 hne hoq
                    · have := Hjk.out; omega
                  case measure => simp [intOf]; omega
                · have e0 : ((j : Int) != (k : Int)) = true := by simp; omega
                  go_wp2_with (go_at_call 150; refine (has_c s.f s.t s.c o.f _ hf ht).mono ?_; rintro e w10 ⟨r, rfl, hr, hb10⟩; have Hr := Lib.hid hr; clear hr)
                  · go_ret
                    refine ⟨ret_eq (bool_eq ?_), hbw0.trans ((hx.trans (hb10.mono hx.size)).mono hbw0.size)⟩
                    rw [← HR.out]
                    refine (secsB_no fun hP => ?_).symm
                    have h3 := hP.2.2 k (by rw [Hl.out]; exact hlt) j (by rw [Hl.out]; exact hlj) (by omega)
                    have h4 := hP.1 j (by rw [Hl.out]; exact hlj)
                    rw [Hos.out] at h4
                    rw [Hos.out, Hsk.out] at h3
                    have h5 := Hr.out (secOk_bd h4).1
                    have h6 : r = true := by assumption
                    rw [h6] at h5
                    have h7 := of_decide_eq_true h5.symm
                    omega
                  · go_roundw
                    case rel =>
                      refine ⟨j + 1, by omega, by go_num, Lib.hid (fun q hq hne hoq => ?_), hx.trans (hb10.mono hx.size)⟩
                      rcases Nat.lt_or_ge q j with h1 | h1
                      · exact HJ.out q h1 hne hoq
                      · obtain rfl : q = j := by omega
                        rw [Hos.out] at hoq ⊢
                        have h5 := Hr.out (secOk_bd hoq).1
                        have h6 : r = false := by assumption
                        rw [h6] at h5
                        have h7 := of_decide_eq_false h5.symm
                        omega
                    case measure => simp [intOf]; omega
              · have harc := arc_bd s.f s.t
                go_wp2_with (go_at_call 151; refine (arc_c s.f s.t s.c _ hf ht).mono ?_; rintro e w11 ⟨rfl, hb11⟩)
                go_roundw
                case rel =>
                  refine ⟨k + 1, by omega, by go_num, by rw [Hnx.out], Lib.hid (fun r hr => ?_), HN, Lib.hid (fun r hr q hq hne hoq => ?_), hbw9.trans (hb11.mono hbw9.size)⟩
                  · rcases Nat.lt_or_ge r k with h1 | h1
                    · exact H1.out r h1
                    · obtain rfl : r = k := by omega
                      rw [Hsk.out]; exact Hok.out
                  · rcases Nat.lt_or_ge r k with h1 | h1
                    · exact H3.out r h1 q hq hne hoq
                    · obtain rfl : r = k := by omega
                      rw [Hsk.out]
                      exact HJ.out q (by omega) hne hoq
                case measure => simp [intOf]; omega
    · have hP : secsP xs := ⟨fun i hi => H1.out i (by rw [Hl.out] at hi; omega), fun i hi => H2.out i (by rw [Hl.out] at hi; omega), fun i hi q hq hne => by
        rw [Hl.out] at hi hq
        exact H3.out i (by omega) q hq hne (H1.out q (by omega))⟩
      obtain rfl : k = n := by omega
      have h360 := arcSum_all hP
      rw [Hl.out] at h360
      have hRR : R = decide ((k : Int) ≤ 12) := by rw [← HR.out, secsB_yes hP, Hl.out, Bool.eq_iff_iff]; simp; omega
      clear hP
      by_cases h12 : (k : Int) ≤ 12
      · have e12 : decide ((k : Int) ≤ 12) = true := by simpa using h12
        rw [e12] at hRR
        have HRR := Lib.hid hRR; clear hRR
        go_wp2_with (go_at_call 30; refine (few_c _ _ _).mono ?_; rintro e w1 ⟨rfl, rfl⟩)
        go_ret
        exact ⟨ret_eq (bool_eq (by rw [HRR.out])), hbw⟩
      · have e12 : decide ((k : Int) ≤ 12) = false := by simpa using h12
        rw [e12] at hRR
        have HRR := Lib.hid hRR; clear hRR
        go_wp2_with (go_at_call 30; refine (few_c _ _ _).mono ?_; rintro e w1 ⟨rfl, rfl⟩)
        go_ret
        exact ⟨ret_eq (bool_eq (by rw [HRR.out])), hbw⟩
end Go.Proofs.YtpfnnjcochhklaaGreatDoor

/- Sectors: the reference. -/
namespace Go.Proofs.YtpfnnjcochhklaaGreatDoor
open Go.RowKit
structure SecP (w : World) (b off : Nat) (s : Sec) : Prop where
  c0 : w.cell? ⟨b, off, none⟩ = some (.int .i64 s.f)
  c1 : w.cell? ⟨b, off + 1, none⟩ = some (.int .i64 s.t)
  c2 : w.cell? ⟨b, off + 2, none⟩ = some (.string s.c)
  hb : b < w.heap.size
theorem SecP.next {w w' : World} {b off : Nat} {s : Sec} (h : SecP w b off s) (hb : Below w.heap.size w w') : SecP w' b off s :=
  have k := keepC hb b h.hb
  ⟨(k _).trans h.c0, (k _).trans h.c1, (k _).trans h.c2, Nat.lt_of_lt_of_le h.hb hb.size⟩
theorem SecP.q {w : World} {b off : Nat} {s : Sec} (h : SecP w b off s) (k : Nat) : SecP (w.drewN k) b off s := h.next (below_drewN (Below.refl _ _) k)
theorem quiet_dn {P : Program} {f : FuncId} {args : Array Value} {w : World} {n : Nat} {v : Value}
    (h : Calls P f args (w.drewN n) fun e w' => e = .returned v ∧ ∃ m, w' = (w.drewN n).drewN m) : Calls P f args (w.drewN n) fun e w'' => e = .returned v ∧ ∃ m, w'' = w.drewN m :=
  h.mono fun _ _ ⟨he, m, hm⟩ => ⟨he, n + m, by rw [hm]; simp [World.drewN, Nat.add_assoc]⟩
theorem Sl.secP {w : World} {n : Nat} {A : Option Addr} {xs : List Sec} (h : Sl w w.heap.size 3 A n (xs.flatMap Sec.cells)) (k : Nat) (hk : k < n) :
    ∃ b off x, A = some ⟨b, off, none⟩ ∧ xs[k]? = some x ∧ SecP w b (off + k * 3) x := by
  obtain ⟨b, off, x, hA, hb, hx, c0, c1, c2⟩ := h.sec k hk
  exact ⟨b, off, x, hA, hx, c0, c1, c2, hb⟩
set_option maxRecDepth 100000 in
set_option maxHeartbeats 400000 in
theorem l08Color_c (t : ByteArray) (w : World) : Calls Tryz.prog 138 #[.string t] w fun e w' => e = .returned (.bool (colB t)) ∧ w = w' := by
  cases h1 : (t.toList == [87])
  · cases h2 : (t.toList == [82])
    · cases h3 : (t.toList == [71])
      · go_enter Tryz.func138, Tryz.ntmps138
        go_wp2
        go_ret
        exact ⟨ret_eq (bool_eq (by simp [colB, h1, h2, h3])), rfl⟩
      · go_enter Tryz.func138, Tryz.ntmps138
        go_wp2
        go_ret
        exact ⟨ret_eq (bool_eq (by simp [colB, h1, h2, h3])), rfl⟩
    · go_enter Tryz.func138, Tryz.ntmps138
      go_wp2
      go_ret
      exact ⟨ret_eq (bool_eq (by simp [colB, h1, h2])), rfl⟩
  · go_enter Tryz.func138, Tryz.ntmps138
    go_wp2
    go_ret
    exact ⟨ret_eq (bool_eq (by simp [colB, h1])), rfl⟩
set_option maxRecDepth 100000 in
set_option maxHeartbeats 400000 in
theorem l08Ends_c (b off : Nat) (s : Sec) (w : World) (h : SecP w b off s) : Calls Tryz.prog 137 #[.pointer (some ⟨b, off, none⟩)] w fun e w' => e = .returned (.bool (inB s.f 0 359 && inB s.t 0 359)) ∧ w = w' := by
  obtain ⟨c0, c1, c2, hb⟩ := h
  cases h1 : inB s.f 0 359
  all_goals
    go_enter Tryz.func137, Tryz.ntmps137
    go_wp2_with (go_at_call 82; refine (l00In_c _ _ _ _).mono ?_; rintro e w1 ⟨rfl, rfl⟩)
    go_ret
    exact ⟨ret_eq (bool_eq (by simp)), rfl⟩
set_option maxRecDepth 100000 in
set_option maxHeartbeats 400000 in
theorem l08One_c (b off : Nat) (s : Sec) (w : World) (h : SecP w b off s) : Calls Tryz.prog 117 #[.pointer (some ⟨b, off, none⟩)] w fun e w' => e = .returned (.bool (secOk s)) ∧ w = w' := by
  have hp := h
  obtain ⟨c0, c1, c2, hb⟩ := h
  have hv : secOk s = ((inB s.f 0 359 && inB s.t 0 359) && colB s.c) := rfl
  obtain ⟨E, hE⟩ : ∃ E, (inB s.f 0 359 && inB s.t 0 359) = E := ⟨_, rfl⟩
  rw [hv, hE]
  have hI : ∀ w1, SecP w1 b off s → Calls Tryz.prog 137 #[.pointer (some ⟨b, off, none⟩)] w1 fun e w' => e = .returned (.bool E) ∧ w1 = w' := fun w1 hh => hE ▸ l08Ends_c b off s w1 hh
  have HI := Lib.hid hI; clear hI
  clear hv hE
  cases E
  all_goals
    go_enter Tryz.func117, Tryz.ntmps117
    go_wp2_with (first | (go_at_call 137; refine (HI.out _ hp).mono ?_; rintro e w1 ⟨rfl, rfl⟩) | (go_at_call 138; refine (l08Color_c _ _).mono ?_; rintro e w1 ⟨rfl, rfl⟩))
    go_ret
    exact ⟨ret_eq (bool_eq (by simp)), rfl⟩
set_option maxRecDepth 100000 in
set_option maxHeartbeats 400000 in
theorem l08Arc_c (b off : Nat) (s : Sec) (w : World) (h : SecP w b off s) (hf : 0 ≤ s.f ∧ s.f ≤ 359) (ht : 0 ≤ s.t ∧ s.t ≤ 359) : Calls Tryz.prog 118 #[.pointer (some ⟨b, off, none⟩)] w fun e w' => e = .returned (.int .i64 (arcI s.f s.t)) ∧ ∃ n, w' = w.drewN n := by
  obtain ⟨c0, c1, c2, hb⟩ := h
  obtain ⟨r, hr⟩ : ∃ r, (s.t - s.f + 360) % 360 = r := ⟨_, rfl⟩
  have ha : arcI s.f s.t = if r = 0 then 360 else r := by unfold arcI; split <;> omega
  rw [ha]
  have hrb : 0 ≤ r ∧ r < 360 := by omega
  clear ha
  by_cases h0 : r = 0
  · rw [if_pos h0]
    have e0 : (r == 0) = true := by simpa using h0
    have H0 := Lib.hid h0; clear h0
    go_enter Tryz.func118, Tryz.ntmps118
    go_wp2
    go_quiet (fail)
    go_wp2
    go_ret
    exact ⟨rfl, _, rfl⟩
  · rw [if_neg h0]
    have e0 : (r == 0) = false := by simpa using h0
    go_enter Tryz.func118, Tryz.ntmps118
    go_wp2
    go_quiet (fail)
    go_wp2
    go_ret
    exact ⟨ret_eq (int_eq hr), _, rfl⟩
set_option maxRecDepth 100000 in
set_option maxHeartbeats 1000000 in
theorem l08Ok_c (A : Option Addr) (n c : Nat) (xs : List Sec) (w : World) (h : Sl w w.heap.size 3 A n (xs.flatMap Sec.cells)) (hm : n ≤ 1048576) :
    Calls Tryz.prog 88 #[.slice A n c] w fun e w' => e = .returned (.bool (secsB xs)) ∧ Below w.heap.size w w' := by
  have hl := h.len Sec.cells 3 Sec.cells_len (by omega)
  obtain ⟨R, hR⟩ : ∃ R, secsB xs = R := ⟨_, rfl⟩
  rw [hR]
  by_cases h12 : n ≤ 12
  rotate_left
  · have h2 : R = false := by rw [← hR, secsB, hl]; simp [h12]
    have i1 : (12 : Int) < (n : Int) := by omega
    have HR := Lib.hid hR; clear hR
    have Hl := Lib.hid hl; clear hl
    have H2 := Lib.hid h2; clear h2
    go_enter Tryz.func88, Tryz.ntmps88
    go_wp2
    go_ret
    exact ⟨ret_eq (bool_eq H2.out.symm), Below.refl _ _⟩
  have i12 : ¬ (12 : Int) < (n : Int) := by omega
  have Hl := Lib.hid hl; clear hl
  have HR := Lib.hid hR; clear hR
  go_enter Tryz.func88, Tryz.ntmps88
  go_wp2
  go_loopw [4] (fun i wr => ∃ k : Nat, k ≤ n ∧ i = .int .i64 k ∧ Hid (∀ r, r < k → secOk (sAt xs r) = true) ∧ Hid (∀ r, r < k → 0 < r → (sAt xs (r - 1)).f < (sAt xs r).f) ∧ Below w.heap.size w wr) (fun i _ => n - (intOf i).toNat)
  case atStart => exact ⟨0, Nat.zero_le _, rfl, Lib.hid (fun r hr => absurd hr (by omega)), Lib.hid (fun r hr => absurd hr (by omega)), Below.refl _ _⟩
  case round =>
    obtain ⟨k, hk, rfl, H1, H2, hbw⟩ := hrel
    by_cases hlt : k < n
    · obtain ⟨b, off, s, rfl, hd, hs0⟩ := h.secP k hlt
      have hsp := hs0.next hbw
      obtain ⟨c0, c1, c2, hbb⟩ := hsp
      have hsp := hs0.next hbw
      have j1 : (0 : Int) ≤ (k : Int) := by omega
      have j2 : (k : Int) < (n : Int) := by omega
      have hsk := sAt_eq hd
      have Hsk := Lib.hid hsk; clear hsk
      have Hd := Lib.hid hd; clear hd
      cases hok : secOk s
      · have hR : R = false := by
          rw [← HR.out]; refine secsB_no fun hP => ?_
          have := hP.1 k (by rw [Hl.out]; exact hlt)
          rw [Hsk.out, hok] at this; cases this
        have HR0 := Lib.hid hR; clear hR
        go_wp2
        go_quiet ((go_at_call 117; exact quiet_c (hok ▸ l08One_c _ _ s _ (hsp.q _))))
        go_wp2
        go_ret
        exact ⟨ret_eq (bool_eq HR0.out.symm), below_drewN hbw _⟩
      · obtain ⟨hf, ht, _⟩ := secOk_bd hok
        have hO : ∀ k' : Nat, Calls Tryz.prog 117 #[.pointer (some ⟨b, off + k * 3, none⟩)] (wr.drewN k') fun e w' => e = .returned (.bool true) ∧ wr.drewN k' = w' := fun k' => hok ▸ l08One_c _ _ s _ (hsp.q k')
        have HO := Lib.hid hO; clear hO
        have Hok := Lib.hid hok; clear hok
        rcases Nat.eq_zero_or_pos k with hk0 | hk0
        · have k0 : ¬ 0 < k := by omega
          have Hk0 := Lib.hid hk0; clear hk0
          go_wp2
          go_quiet ((go_at_call 117; exact quiet_c (HO.out _)))
          go_wp2
          go_roundw
          case rel =>
            refine ⟨k + 1, by omega, by go_num, Lib.hid (fun r hr => ?_), Lib.hid (fun r hr h0 => ?_), below_drewN hbw _⟩
            · rcases Nat.lt_or_ge r k with h1 | h1
              · exact H1.out r h1
              · obtain rfl : r = k := by omega
                rw [Hsk.out]; exact Hok.out
            · have := Hk0.out; omega
          case measure => simp [intOf]; omega
        · obtain ⟨b', off', p, e, hpx, hp0⟩ := h.secP (k - 1) (by omega)
          injection e with e; injection e with e1 e2 _
          subst e1 e2
          have hpp := hp0.next hbw
          obtain ⟨p0, _, _, _⟩ := hpp
          have hps := sAt_eq hpx
          obtain ⟨kp, hkp⟩ : ∃ kp, k - 1 = kp := ⟨_, rfl⟩
          have hwp : IntKind.i64.wrap ((k : Int) - 1) = (kp : Int) := by rw [IntWalk.i64_in _ (by omega)]; omega
          have hwq : (k : Int) - 1 = (kp : Int) := by omega
          have i2 : (kp : Int) < (n : Int) := by omega
          rw [hkp] at p0
          have Hpx := Lib.hid hpx; clear hpx
          have Hps := Lib.hid hps; clear hps
          have Hkp := Lib.hid hkp; clear hkp
          clear hp0
          by_cases hge : s.f ≤ p.f
          · have hR : R = false := by
              rw [← HR.out]; refine secsB_no fun hP => ?_
              have := hP.2.1 k (by rw [Hl.out]; exact hlt) hk0
              rw [Hsk.out, Hps.out] at this; omega
            have HR0 := Lib.hid hR; clear hR
            go_wp2
            go_quiet ((go_at_call 117; exact quiet_c (HO.out _)))
            go_wp2
            go_ret
            exact ⟨ret_eq (bool_eq HR0.out.symm), below_drewN hbw _⟩
          · go_wp2
            go_quiet ((go_at_call 117; exact quiet_c (HO.out _)))
            go_wp2
            go_roundw
            case rel =>
              refine ⟨k + 1, by omega, by go_num, Lib.hid (fun r hr => ?_), Lib.hid (fun r hr h0 => ?_), below_drewN hbw _⟩
              · rcases Nat.lt_or_ge r k with h1 | h1
                · exact H1.out r h1
                · obtain rfl : r = k := by omega
                  rw [Hsk.out]; exact Hok.out
              · rcases Nat.lt_or_ge r k with h1 | h1
                · exact H2.out r h1 h0
                · obtain rfl : r = k := by omega
                  rw [Hsk.out, Hps.out]; omega
            case measure => simp [intOf]; omega
    · obtain rfl : k = n := by omega
      have hend : (1 < k → ∀ r, r < k → arcI (sAt xs r).f (sAt xs r).t ≤ distI (sAt xs r).f (sAt xs ((r + 1) % k)).f) → R = true := fun h3 => by
        rw [← HR.out, secsB_yes (secs_next (fun i hi => H1.out i (by rw [Hl.out] at hi; exact hi)) (fun i hi => H2.out i (by rw [Hl.out] at hi; exact hi)) (fun h1 i hi => by rw [Hl.out] at h1 hi ⊢; exact h3 h1 i hi)), Hl.out]
        simpa using h12
      have Hend := Lib.hid hend; clear hend
      go_wp2
      go_loopw [5] (fun i wr2 => ∃ j : Nat, j ≤ k ∧ i = .int .i64 j ∧ Hid (1 < k → ∀ r, r < j → arcI (sAt xs r).f (sAt xs r).t ≤ distI (sAt xs r).f (sAt xs ((r + 1) % k)).f) ∧ Below w.heap.size w wr2) (fun i _ => k - (intOf i).toNat)
      case atStart => exact ⟨0, Nat.zero_le _, rfl, Lib.hid (fun _ r hr => absurd hr (by omega)), hbw⟩
      case round =>
        clear hbw
        obtain ⟨j, hj, rfl, H3, hbw⟩ := hrel
        by_cases hlj : j < k
        · have i1 : (j : Int) < (k : Int) := by omega
          by_cases hn1 : 1 < k
          · have i2 : (1 : Int) < (k : Int) := by omega
            obtain ⟨q, hq⟩ : ∃ q, (j + 1) % k = q := ⟨_, rfl⟩
            have hqk : q < k := by rw [← hq]; exact Nat.mod_lt _ (by omega)
            obtain ⟨b, off, s, rfl, hd, hs0⟩ := h.secP j hlj
            obtain ⟨b', off', o, e, hox, ho0⟩ := h.secP q hqk
            injection e with e; injection e with e1 e2 _
            subst e1 e2
            have hsp := hs0.next hbw
            obtain ⟨o0, _, _, _⟩ := ho0.next hbw
            obtain ⟨s0, s1, s2, hbb⟩ := hs0.next hbw
            have hsk := sAt_eq hd
            have hok := sAt_eq hox
            have hv := H1.out j hlj
            have hw := H1.out q hqk
            rw [hsk] at hv
            rw [hok] at hw
            obtain ⟨hf, ht, _⟩ := secOk_bd hv
            obtain ⟨hof, _, _⟩ := secOk_bd hw
            have em : ((j : Int) + 1) % (k : Int) = (q : Int) := by rw [← hq]; push_cast; rfl
            have i3 : (q : Int) < (k : Int) := by omega
            have i4 : (0 : Int) ≤ (q : Int) := by omega
            have hD : (o.f - s.f + 360) % 360 = distI s.f o.f := by unfold distI; omega
            have hArc : ∀ n', Calls Tryz.prog 118 #[.pointer (some ⟨b, off + j * 3, none⟩)] (wr.drewN n') fun e w' => e = .returned (.int .i64 (arcI s.f s.t)) ∧ ∃ m, w' = (wr.drewN n').drewN m := fun n' => l08Arc_c _ _ s _ (hsp.q n') hf ht
            obtain ⟨AR, hAR⟩ : ∃ AR, arcI s.f s.t = AR := ⟨_, rfl⟩
            obtain ⟨D, hD2⟩ : ∃ D, distI s.f o.f = D := ⟨_, rfl⟩
            rw [hAR] at hArc
            rw [hD2] at hD
            have HArc := Lib.hid hArc; clear hArc
            have HAR := Lib.hid hAR; clear hAR
            have HD2 := Lib.hid hD2; clear hD2
            have Hq := Lib.hid hq; clear hq
            have Hsk := Lib.hid hsk; clear hsk
            have Hok := Lib.hid hok; clear hok
            have Hv := Lib.hid hv; clear hv
            have Hw := Lib.hid hw; clear hw
            have Hd := Lib.hid hd; clear hd
            have Hox := Lib.hid hox; clear hox
            by_cases hgt : D < AR
            · have hR : R = false := by
                rw [← HR.out]; refine secsB_no fun hP => ?_
                have h3 := secs_to_next hP (by rw [Hl.out]; exact hn1) j (by rw [Hl.out]; exact hlj)
                rw [Hl.out, Hq.out, Hsk.out, Hok.out, HAR.out, HD2.out] at h3
                omega
              have HR0 := Lib.hid hR; clear hR
              go_wp2
              go_quiet ((go_at_call 118; exact quiet_dn (HArc.out _)))
              go_wp2
              go_ret
              exact ⟨ret_eq (bool_eq HR0.out.symm), below_drewN hbw _⟩
            · go_wp2
              go_quiet ((go_at_call 118; exact quiet_dn (HArc.out _)))
              go_wp2
              go_roundw
              case rel =>
                refine ⟨j + 1, by omega, by go_num, Lib.hid (fun h1 r hr => ?_), below_drewN hbw _⟩
                rcases Nat.lt_or_ge r j with h2 | h2
                · exact H3.out h1 r h2
                · obtain rfl : r = j := by omega
                  rw [Hq.out, Hsk.out, Hok.out, HAR.out, HD2.out]; omega
              case measure => simp [intOf]; omega
          · have i2 : ¬ (1 : Int) < (k : Int) := by omega
            go_wp2
            go_ret
            exact ⟨ret_eq (bool_eq (Hend.out fun h1 => absurd h1 hn1).symm), hbw⟩
        · obtain rfl : j = k := by omega
          go_wp2
          go_ret
          exact ⟨ret_eq (bool_eq (Hend.out H3.out).symm), hbw⟩
end Go.Proofs.YtpfnnjcochhklaaGreatDoor

/- The colors of sectors, both sides. -/
namespace Go.Proofs.YtpfnnjcochhklaaGreatDoor
open Go.RowKit
def allC : List UInt8 := [87, 82, 71, 89]
def colsN (l : List Sec) (i : Nat) : List UInt8 := (allC.take i).filter fun c => l.any fun s => s.c.toList == [c]
theorem colsN_all (l : List Sec) : colsN l 4 = colsOf l := rfl
theorem colsN_len (l : List Sec) (i : Nat) : (colsN l i).length ≤ 4 := Nat.le_trans (List.length_filter_le _ _) (by rw [List.length_take]; simp [allC]; omega)
theorem colsN_next (l : List Sec) {i : Nat} {c : UInt8} (h : allC[i]? = some c) : colsN l (i + 1) = colsN l i ++ (if (l.any fun s => s.c.toList == [c]) = true then [c] else []) := by
  rw [colsN, colsN, List.take_add_one, h, List.filter_append]
  congr 1
  simp [List.filter_cons]
theorem bs_toList (l : List UInt8) : (bs l).toList = l := by rw [bs, ByteArray.toList_eq]
theorem bs_size (l : List UInt8) : (bs l).size = l.length := by simp [bs, ByteArray.size]
theorem bs_app (a b : List UInt8) : bs a ++ bs b = bs (a ++ b) := by
  apply ByteArray.ext
  simp [bs]
theorem any_yes {l : List Sec} {s : Sec} {c : UInt8} {k : Nat} (hx : l[k]? = some s) (h : (s.c.toList == [c]) = true) : (l.any fun s => s.c.toList == [c]) = true := by
  rw [List.any_eq_true]; exact ⟨s, List.mem_of_getElem? hx, h⟩
theorem any_no {l : List Sec} {c : UInt8} (h : ∀ s ∈ l, (s.c.toList == [c]) = false) : (l.any fun s => s.c.toList == [c]) = false := by
  rw [List.any_eq_false]; intro s hs; rw [h s hs]; simp
set_option maxRecDepth 100000 in
set_option maxHeartbeats 1000000 in
theorem l08Colors_c (A : Option Addr) (n c : Nat) (xs : List Sec) (w : World) (h : Sl w w.heap.size 3 A n (xs.flatMap Sec.cells)) (hm : n ≤ 1048576) :
    Calls Tryz.prog 73 #[.slice A n c] w fun e w' => e = .returned (.string (bs (colsOf xs))) ∧ Below w.heap.size w w' := by
  have hl := h.len Sec.cells 3 Sec.cells_len (by omega)
  have hw0 : Below w.heap.size w (w.alloc (.cells #[.string ⟨#[87]⟩, .string ⟨#[82]⟩, .string ⟨#[71]⟩, .string ⟨#[89]⟩] 9)) := by (repeat (first | (with_reducible assumption) | (with_reducible exact Below.refl _ _) | exact Nat.le_refl _ | exact Below.size (by with_reducible assumption) | (with_reducible refine Below.drew ?_) | (with_reducible refine below_drewN ?_ _) | (with_reducible refine Below.alloc ?_ ?_ _) | (with_reducible refine Below.setCell ?_ ?_ _) | (with_reducible refine le_alloc ?_ _) | (with_reducible refine le_set ?_ _ _) | (with_reducible refine le_drew ?_) | (with_reducible refine le_drewN ?_ _) | omega | (dsimp only; omega)))
  have hL : ∀ j, j < 4 → ∃ c, allC[j]? = some c ∧ (w.alloc (.cells #[.string ⟨#[87]⟩, .string ⟨#[82]⟩, .string ⟨#[71]⟩, .string ⟨#[89]⟩] 9)).cell? ⟨w.heap.size, j, none⟩ = some (.string (bs [c])) := fun j hj => by
    have hb : (w.alloc (.cells #[.string ⟨#[87]⟩, .string ⟨#[82]⟩, .string ⟨#[71]⟩, .string ⟨#[89]⟩] 9)).heap[w.heap.size]? = some (.cells #[.string ⟨#[87]⟩, .string ⟨#[82]⟩, .string ⟨#[71]⟩, .string ⟨#[89]⟩] 9 (0, 0)) := heap_alloc_new w _
    have : j = 0 ∨ j = 1 ∨ j = 2 ∨ j = 3 := by omega
    rcases this with rfl | rfl | rfl | rfl <;> exact ⟨_, rfl, (cell_of_row _ w.heap.size _ _ 9 (0, 0) hb).trans rfl⟩
  obtain ⟨w0, hw⟩ : ∃ w0, w.alloc (.cells #[.string ⟨#[87]⟩, .string ⟨#[82]⟩, .string ⟨#[71]⟩, .string ⟨#[89]⟩] 9) = w0 := ⟨_, rfl⟩
  have hz : w.heap.size < w0.heap.size := by rw [← hw]; simp
  rw [hw] at hL hw0
  have Hl := Lib.hid hl; clear hl
  have HL := Lib.hid hL; clear hL
  go_enter Tryz.func73, Tryz.ntmps73
  go_wp2
  try rw [hw]
  clear hw
  go_loopw [3, 5] (fun t i wr => ∃ (k : Nat) (out : ByteArray), k ≤ 4 ∧ i = .int .i64 k ∧ t = .string out ∧ out = bs (colsN xs k) ∧ Below w0.heap.size w0 wr) (fun _ i _ => 4 - (intOf i).toNat)
  case atStart => exact ⟨0, _, by omega, rfl, rfl, rfl, Below.refl _ _⟩
  case round =>
    obtain ⟨k, out, hk, rfl, rfl, hout, hbw⟩ := hrel
    have hbw0 := hw0.trans (hbw.mono hw0.size)
    have hos : out.size ≤ 4 := by rw [hout, bs_size]; exact colsN_len _ _
    have Hout := Lib.hid hout; clear hout
    by_cases hlt : k < 4
    · obtain ⟨cc, hcc, hcell⟩ := HL.out k hlt
      have hnx := colsN_next xs hcc
      have q1 := keepC hbw w.heap.size hz
      obtain ⟨C, hC⟩ : ∃ C, bs [cc] = C := ⟨_, rfl⟩
      have hCs : C.size = 1 := by rw [← hC]; rfl
      have hCl : C.toList = [cc] := by rw [← hC, bs_toList]
      rw [hC] at hcell
      have hsz : out.size + C.size ≤ 9223372036854775807 := by omega
      have Hcc := Lib.hid hcc; clear hcc
      have HC := Lib.hid hC; clear hC
      have HCs := Lib.hid hCs; clear hCs
      have HCl := Lib.hid hCl; clear hCl
      have Hnx := Lib.hid hnx; clear hnx
      go_wp2
      go_loopw [3, 6] (fun t i wr2 => ∃ j : Nat, j ≤ n ∧ i = .int .i64 j ∧ t = .string out ∧ Hid (∀ s ∈ xs.take j, (s.c.toList == [cc]) = false) ∧ Below w0.heap.size w0 wr2) (fun _ i _ => n - (intOf i).toNat)
      case atStart => exact ⟨0, Nat.zero_le _, rfl, rfl, Lib.hid (by simp), hbw⟩
      case round =>
        clear hbw hbw0 q1
        obtain ⟨j, hj, rfl, rfl, HN, hbw⟩ := hrel
        have hbw0 := hw0.trans (hbw.mono hw0.size)
        have q1 := keepC hbw w.heap.size hz
        by_cases hlj : j < n
        · obtain ⟨b, off, s, rfl, hb, hd, c1, c2, c3⟩ := h.sec j hlj
          have q2 := keepC hbw0 b hb
          have i1 : (j : Int) < (n : Int) := by omega
          have i2 : (0 : Int) ≤ (j : Int) := by omega
          have Hd := Lib.hid hd; clear hd
          cases hst : (s.c.toList == C.toList)
          · go_wp2
            go_quiet (fail)
            go_wp2
            go_roundw
            case rel =>
              refine ⟨j + 1, by omega, by go_num, rfl, Lib.hid (fun t ht => ?_), below_drewN hbw _⟩
              rcases (mem_take_next Hd.out t).1 ht with h2 | h2
              · exact HN.out t h2
              · rw [h2, ← HCl.out]; exact hst
            case measure => simp [intOf]; omega
          · go_wp2
            go_quiet (fail)
            go_wp2
            go_roundw
            case rel =>
              refine ⟨k + 1, out ++ C, by omega, by go_num, rfl, ?_, below_drewN hbw _⟩
              rw [HCl.out] at hst
              rw [Hnx.out, if_pos (any_yes Hd.out hst), Hout.out, ← HC.out, bs_app]
            case measure => simp [intOf]; omega
        · go_wp2
          go_roundw
          case rel =>
            refine ⟨k + 1, out, by omega, by go_num, rfl, ?_, hbw⟩
            have hno := HN.out
            rw [List.take_of_length_le (by rw [Hl.out]; omega)] at hno
            rw [Hnx.out, any_no hno, Hout.out]; simp
          case measure => simp [intOf]; omega
    · obtain rfl : k = 4 := by omega
      go_wp2
      go_ret
      exact ⟨ret_eq (congrArg Value.string (by rw [Hout.out, colsN_all])), hbw0⟩
abbrev wrgy : ByteArray := ⟨#[87, 82, 71, 89]⟩
theorem wrgy_at {k : Nat} (h : k < 4) : ∃ (c : UInt8) (hh : k < wrgy.size), allC[k]? = some c ∧ (wrgy[k]'hh).toNat < 128 ∧ wrgy.extract k (k + 1) = bs [c] ∧ ∀ xs, ¬ c ∈ colsN xs k := by
  have : k = 0 ∨ k = 1 ∨ k = 2 ∨ k = 3 := by omega
  rcases this with rfl | rfl | rfl | rfl
  all_goals
    refine ⟨_, by decide, rfl, by decide, by decide, fun xs hm => ?_⟩
    have := (List.mem_filter.1 hm).1
    revert this
    decide
theorem hasC_one {s C : ByteArray} {c : UInt8} (h : C.toList = [c]) : hasC s C = decide (c ∈ s.toList) := by rw [hasC, h]
theorem iterPos_at {w : World} {g p : Nat} {s : ByteArray} (h : w.heap[g]? = some (.stringIter s p)) : w.iterPos g = p := by simp [World.iterPos, h]
set_option maxRecDepth 100000 in
set_option maxHeartbeats 1000000 in
theorem colorsOf_c (A : Option Addr) (n c : Nat) (xs : List Sec) (w : World) (h : Sl w w.heap.size 3 A n (xs.flatMap Sec.cells)) (hm : n ≤ 1048576) :
    Calls Tryz.prog 134 #[.slice A n c] w fun e w' => e = .returned (.string (bs (colsOf xs))) ∧ Below w.heap.size w w' := by
  have hl := h.len Sec.cells 3 Sec.cells_len (by omega)
  have Hl := Lib.hid hl; clear hl
  go_enter Tryz.func134, Tryz.ntmps134
  go_wp2
  go_loopw [3] (fun t wr => ∃ (k : Nat) (out : ByteArray), k ≤ 4 ∧ t = .string out ∧ out = bs (colsN xs k) ∧ wr.heap[w.heap.size]? = some (.stringIter wrgy k) ∧ Below w.heap.size w wr) (fun _ wr => 4 - wr.iterPos w.heap.size)
  case atStart => exact ⟨0, _, by omega, rfl, rfl, World.iter_heap _ _ _, by unfold World.iter; (repeat (first | (with_reducible assumption) | (with_reducible exact Below.refl _ _) | exact Nat.le_refl _ | exact Below.size (by with_reducible assumption) | (with_reducible refine Below.drew ?_) | (with_reducible refine below_drewN ?_ _) | (with_reducible refine Below.alloc ?_ ?_ _) | (with_reducible refine Below.setCell ?_ ?_ _) | (with_reducible refine le_alloc ?_ _) | (with_reducible refine le_set ?_ _ _) | (with_reducible refine le_drew ?_) | (with_reducible refine le_drewN ?_ _) | omega | (dsimp only; omega)))⟩
  case round =>
    obtain ⟨k, out, hk, rfl, hout, hit, hbw⟩ := hrel
    have hos : out.size ≤ 4 := by rw [hout, bs_size]; exact colsN_len _ _
    have hip := iterPos_at hit
    have Hout := Lib.hid hout; clear hout
    have Hip := Lib.hid hip; clear hip
    by_cases hlt : k < 4
    · obtain ⟨cc, hks, hcc, hasc, hext, hnm⟩ := wrgy_at hlt
      have hnm := hnm xs
      have hnx := colsN_next xs hcc
      have hnt : ∀ ty, (Instr.next (.pointer (some ⟨w.heap.size, 0, none⟩)) true ty).run Tryz.prog wr = _ := fun ty => Lib.run_next_ascii_at wr w.heap.size wrgy k ty hit hks hasc
      have hit1 := Lib.iterAt_heap wr w.heap.size wrgy k (k + 1) hit
      have hbw1 := Lib.below_iterAt hbw (Nat.le_refl _) wrgy (k + 1)
      obtain ⟨C, hC⟩ : ∃ C, bs [cc] = C := ⟨_, rfl⟩
      have hCs : C.size = 1 := by rw [← hC]; rfl
      have hCl : C.toList = [cc] := by rw [← hC, bs_toList]
      rw [hC] at hext
      obtain ⟨w1, hw1⟩ : ∃ w1, wr.iterAt w.heap.size wrgy (k + 1) = w1 := ⟨_, rfl⟩
      rw [hw1] at hit1 hbw1
      have hz1 : w.heap.size < w1.heap.size := (Array.getElem?_eq_some_iff.1 hit1).1
      have Hcc := Lib.hid hcc; clear hcc
      have HC := Lib.hid hC; clear hC
      have HCl := Lib.hid hCl; clear hCl
      have Hnx := Lib.hid hnx; clear hnx
      have Hnm := Lib.hid hnm; clear hnm
      have Hasc := Lib.hid hasc; clear hasc
      have Hit1 := Lib.hid hit1; clear hit1
      have HCs := Lib.hid hCs; clear hCs
      have hW := Lib.hid hw1
      go_wp2
      try rw [hw1]
      clear hw1 hnt hit hbw
      go_loopw [3, 14] (fun t i wr2 => ∃ (j : Nat) (o2 : ByteArray), j ≤ n ∧ i = .int .i64 j ∧ t = .string o2 ∧ o2 = bs (colsN xs k ++ (if ((xs.take j).any fun s => s.c.toList == [cc]) = true then [cc] else [])) ∧ Below w1.heap.size w1 wr2) (fun _ i _ => n - (intOf i).toNat)
      case atStart => exact ⟨0, out, Nat.zero_le _, rfl, rfl, by rw [Hout.out]; simp, Below.refl _ _⟩
      case round =>
        obtain ⟨j, o2, hj, rfl, rfl, ho2, hb2⟩ := hrel
        have hbw := hbw1.trans (hb2.mono hbw1.size)
        have ho2s : o2.size ≤ 5 := by
          have := colsN_len xs k
          rw [ho2, bs_size, List.length_append]; split <;> simp <;> omega
        have ho2l : o2.toList = colsN xs k ++ (if ((xs.take j).any fun s => s.c.toList == [cc]) = true then [cc] else []) := by rw [ho2, bs_toList]
        have Ho2 := Lib.hid ho2; clear ho2
        have Ho2l := Lib.hid ho2l; clear ho2l
        by_cases hlj : j < n
        · obtain ⟨b, off, s, rfl, hb, hd, c1, c2, c3⟩ := h.sec j hlj
          have q2 := keepC hbw b hb
          have i1 : (j : Int) < (n : Int) := by omega
          have i2 : (0 : Int) ≤ (j : Int) := by omega
          have htk : ((xs.take (j + 1)).any fun s => s.c.toList == [cc]) = (((xs.take j).any fun s => s.c.toList == [cc]) || (s.c.toList == [cc])) := by
            rw [List.take_add_one, hd]; simp
          have hsz : o2.size + C.size ≤ 9223372036854775807 := by have := HCs.out; omega
          have Hd := Lib.hid hd; clear hd
          have Htk := Lib.hid htk; clear htk
          cases hst : (s.c.toList == C.toList)
          · go_wp2
            go_roundw
            case rel =>
              refine ⟨j + 1, o2, by omega, by go_num, rfl, ?_, by (repeat (first | (with_reducible assumption) | (with_reducible exact Below.refl _ _) | exact Nat.le_refl _ | exact Below.size (by with_reducible assumption) | (with_reducible refine Below.drew ?_) | (with_reducible refine below_drewN ?_ _) | (with_reducible refine Below.alloc ?_ ?_ _) | (with_reducible refine Below.setCell ?_ ?_ _) | (with_reducible refine le_alloc ?_ _) | (with_reducible refine le_set ?_ _ _) | (with_reducible refine le_drew ?_) | (with_reducible refine le_drewN ?_ _) | omega | (dsimp only; omega)))⟩
              rw [HCl.out] at hst
              rw [Htk.out, hst, Bool.or_false]; exact Ho2.out
            case measure => simp [intOf]; omega
          · cases hany : ((xs.take j).any fun s => s.c.toList == [cc])
            · have hh : hasC o2 C = false := by
                rw [hasC_one HCl.out, Ho2l.out, hany]
                simpa using Hnm.out
              have Hany := Lib.hid hany; clear hany
              go_wp2_with (go_at_call 152; refine (contains1_c _ C _ HCs.out).mono ?_; rintro e w4 ⟨rfl, rfl⟩)
              go_roundw
              case rel =>
                refine ⟨j + 1, o2 ++ C, by omega, by go_num, rfl, ?_, by (repeat (first | (with_reducible assumption) | (with_reducible exact Below.refl _ _) | exact Nat.le_refl _ | exact Below.size (by with_reducible assumption) | (with_reducible refine Below.drew ?_) | (with_reducible refine below_drewN ?_ _) | (with_reducible refine Below.alloc ?_ ?_ _) | (with_reducible refine Below.setCell ?_ ?_ _) | (with_reducible refine le_alloc ?_ _) | (with_reducible refine le_set ?_ _ _) | (with_reducible refine le_drew ?_) | (with_reducible refine le_drewN ?_ _) | omega | (dsimp only; omega)))⟩
                rw [HCl.out] at hst
                have ho := Ho2.out
                rw [Hany.out] at ho
                rw [Htk.out, hst, Bool.or_true, ho, ← HC.out, bs_app]; simp
              case measure => simp [intOf]; omega
            · have hh : hasC o2 C = true := by
                rw [hasC_one HCl.out, Ho2l.out, hany]
                simp
              have Hany := Lib.hid hany; clear hany
              go_wp2_with (go_at_call 152; refine (contains1_c _ C _ HCs.out).mono ?_; rintro e w4 ⟨rfl, rfl⟩)
              go_roundw
              case rel =>
                refine ⟨j + 1, o2, by omega, by go_num, rfl, ?_, by (repeat (first | (with_reducible assumption) | (with_reducible exact Below.refl _ _) | exact Nat.le_refl _ | exact Below.size (by with_reducible assumption) | (with_reducible refine Below.drew ?_) | (with_reducible refine below_drewN ?_ _) | (with_reducible refine Below.alloc ?_ ?_ _) | (with_reducible refine Below.setCell ?_ ?_ _) | (with_reducible refine le_alloc ?_ _) | (with_reducible refine le_set ?_ _ _) | (with_reducible refine le_drew ?_) | (with_reducible refine le_drewN ?_ _) | omega | (dsimp only; omega)))⟩
                have ho := Ho2.out
                rw [Hany.out] at ho
                rw [Htk.out, Hany.out, Bool.true_or]; exact ho
              case measure => simp [intOf]; omega
        · obtain rfl : j = n := by omega
          have hitr : wr.heap[w.heap.size]? = some (.stringIter wrgy (k + 1)) := (hb2.block _ hz1).trans Hit1.out
          have hips := iterPos_at hitr
          go_wp2
          go_roundw
          case rel =>
            refine ⟨k + 1, o2, by omega, rfl, ?_, hitr, hbw⟩
            have ho := Ho2.out
            rw [List.take_of_length_le (by rw [Hl.out]; exact Nat.le_refl _)] at ho
            rw [Hnx.out]; exact ho
          case measure =>
            have := Hip.out
            omega
    · obtain rfl : k = 4 := by omega
      have hnt : ∀ ty, (Instr.next (.pointer (some ⟨w.heap.size, 0, none⟩)) true ty).run Tryz.prog wr = _ := fun ty => Lib.run_next_end_at wr w.heap.size wrgy 4 ty hit (by decide)
      go_wp2
      go_ret
      exact ⟨ret_eq (congrArg Value.string (by rw [Hout.out, colsN_all])), hbw⟩
end Go.Proofs.YtpfnnjcochhklaaGreatDoor
