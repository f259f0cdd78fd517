/- Sectors: the program: ValidSectors. -/
import Derived.Test.YtpgcgmbjlecnpaaGreatDoorSecI
import Derived.Test.YtpgcgmbjlecnpaaGreatDoorSecLaw
namespace Go.Proofs.YtpgcgmbjlecnpaaGreatDoor
open Go.RowKit
set_option maxRecDepth 100000 in
set_option maxHeartbeats 1000000 in
theorem validSectors_c (A : Option Addr) (n c : Nat) (xs : List Sec) (w : World) (h : Sl w w.heap.size 3 A n (xs.flatMap Sec.cells)) (hm : n ≤ 1048576) (hs : ∀ s ∈ xs, s.c.size ≤ maxLen) :
    Calls Tryz.prog 77 #[.slice A n c] w fun e w' => e = .returned (.bool (secsB xs)) ∧ Below w.heap.size w w' := by
  have hl := h.len Sec.cells 3 Sec.cells_len (by omega)
  have Hl := Lib.hid hl; clear hl
  have Hs := Lib.hid hs; clear hs
  obtain ⟨R, hR⟩ : ∃ R, secsB xs = R := ⟨_, rfl⟩
  rw [hR]
  have HR := Lib.hid hR; clear hR
  go_enter Tryz.func77, Tryz.ntmps77
  go_wp2
  go_loopw [3, 10] (fun t i wr => ∃ k : Nat, k ≤ n ∧ i = .int .i64 k ∧ t = .int .i64 (arcSum xs k) ∧ Hid (∀ r, r < k → secOk (sAt xs r) = true) ∧ Hid (∀ r, r < k → 0 < r → (sAt xs (r - 1)).f < (sAt xs r).f) ∧
    Hid (∀ r, r < k → ∀ q, q < n → r ≠ q → secOk (sAt xs q) = true → arcI (sAt xs r).f (sAt xs r).t ≤ distI (sAt xs r).f (sAt xs q).f) ∧ Below w.heap.size w wr) (fun _ i _ => n - (intOf i).toNat)
  case atStart => exact ⟨0, Nat.zero_le _, rfl, rfl, Lib.hid (fun r hr => absurd hr (by omega)), Lib.hid (fun r hr => absurd hr (by omega)), Lib.hid (fun r hr => absurd hr (by omega)), Below.refl _ _⟩
  case round =>
    obtain ⟨k, hk, rfl, rfl, H1, H2, H3, hbw⟩ := hrel
    have hsum := arcSum_bd xs k
    by_cases hlt : k < n
    · obtain ⟨b, off, s, rfl, hb, hd, c1, c2, c3⟩ := h.sec k hlt
      have q1 := keepC hbw b hb
      have j1 : (0 : Int) ≤ (k : Int) := by omega
      have j2 : (k : Int) < (n : Int) := by omega
      have hsk := sAt_eq hd
      have hV : ∀ w, Calls Tryz.prog 119 #[.agg #[.int .i64 s.f, .int .i64 s.t, .string s.c]] w fun e w' => e = .returned (.bool (secOk s)) ∧ Below w.heap.size w w' := fun w => validSector_c s w (Hs.out s (List.mem_of_getElem? hd))
      have hnx : arcSum xs (k + 1) = arcSum xs k + arcI s.f s.t := by rw [arcSum, hsk]
      have HV := Lib.hid hV; clear hV
      have Hsk := Lib.hid hsk; clear hsk
      have Hd := Lib.hid hd; clear hd
      have Hnx := Lib.hid hnx; clear hnx
      have hbb : b < wr.heap.size := Nat.lt_of_lt_of_le hb hbw.size
      obtain ⟨w0, hw0⟩ : ∃ w0, wr.alloc (.cells #[.int .i64 s.f, .int .i64 s.t, .string s.c] 109) = w0 := ⟨_, rfl⟩
      have hb0' : Below wr.heap.size wr w0 := by rw [← hw0]; (repeat (first | (with_reducible assumption) | (with_reducible exact Below.refl _ _) | exact Nat.le_refl _ | exact Below.size (by with_reducible assumption) | (with_reducible refine Below.drew ?_) | (with_reducible refine below_drewN ?_ _) | (with_reducible refine Below.alloc ?_ ?_ _) | (with_reducible refine Below.setCell ?_ ?_ _) | (with_reducible refine le_alloc ?_ _) | (with_reducible refine le_set ?_ _ _) | (with_reducible refine le_drew ?_) | (with_reducible refine le_drewN ?_ _) | omega | (dsimp only; omega)))
      have g1 : w0.cell? ⟨wr.heap.size, 0, none⟩ = some (.int .i64 s.f) ∧ w0.cell? ⟨wr.heap.size, 1, none⟩ = some (.int .i64 s.t) ∧ w0.cell? ⟨wr.heap.size, 2, none⟩ = some (.string s.c) := by
        rw [← hw0]
        have hbk : (wr.alloc (.cells #[.int .i64 s.f, .int .i64 s.t, .string s.c] 109)).heap[wr.heap.size]? = some (.cells #[.int .i64 s.f, .int .i64 s.t, .string s.c] 109 (0, 0)) := heap_alloc_new wr _
        refine ⟨?_, ?_, ?_⟩ <;> (rw [cell_of_row _ wr.heap.size _ _ 109 (0, 0) hbk]; rfl)
      have hg0 : wr.heap.size < w0.heap.size := by rw [← hw0]; simp
      have hb0 : b < w0.heap.size := by omega
      obtain ⟨g1, g2, g3⟩ := g1
      have k1 := (keepC hb0' b (by omega) _).trans ((q1 _).trans c1)
      have k2 := (keepC hb0' b (by omega) _).trans ((q1 _).trans c2)
      have k3 := (keepC hb0' b (by omega) _).trans ((q1 _).trans c3)
      have hbw0 : Below w.heap.size w w0 := hbw.trans (hb0'.mono hbw.size)
      have hz0 : w.heap.size ≤ wr.heap.size := hbw.size
      have hp : 0 < k → ∃ p, xs[k - 1]? = some p ∧ w0.cell? ⟨b, off + (k - 1) * 3, none⟩ = some (.int .i64 p.f) := fun h0 => by
        obtain ⟨b', off', p, e, _, hp, d1, _⟩ := h.sec (k - 1) (by omega)
        injection e with e; injection e with e1 e2 _
        subst e1 e2
        exact ⟨p, hp, (keepC hb0' _ (by omega) _).trans ((q1 _).trans d1)⟩
      obtain ⟨g, hg⟩ : ∃ g, wr.heap.size = g := ⟨_, rfl⟩
      rw [hg] at hg0 hz0 g1 g2 g3
      clear hb0' hbb
      cases hok : secOk s
      · have hR : R = false := by
          rw [← HR.out]; refine secsB_no fun hP => ?_
          have := hP.1 k (by rw [Hl.out]; exact hlt)
          rw [Hsk.out, hok] at this; cases this
        rw [hok] at HV
        have HP := Lib.hid hp; clear hp
        have HR0 := Lib.hid hR; clear hR
        go_wp2
        try rw [hw0]
        try rw [hg]
        clear hw0 hg q1 c1 c2 c3
        have e1 : ∀ {w' : World}, Below w0.heap.size w0 w' → (Below w0.heap.size w0 w' ∧ (∀ x, w'.cell? ⟨b, x, none⟩ = w0.cell? ⟨b, x, none⟩) ∧ (∀ x, w'.cell? ⟨g, x, none⟩ = w0.cell? ⟨g, x, none⟩)) := fun hbb => ⟨hbb, keepC hbb _ hb0, keepC hbb _ hg0⟩
        refine wp_region_held_drew (S := fun w' => Below w0.heap.size w0 w' ∧ (∀ x, w'.cell? ⟨b, x, none⟩ = w0.cell? ⟨b, x, none⟩) ∧ (∀ x, w'.cell? ⟨g, x, none⟩ = w0.cell? ⟨g, x, none⟩)) (by kernel_rfl) (e1 (Below.refl _ _).drew) (fun hHeld => ?_)
        (first
          | (refine wpAnyH_take (i := 0) (v := ?_) rfl (by kernel_rfl) (by kernel_rfl) (by kernel_rfl) (fun _ _ _ h => h) (Or.inl ⟨by rfl, ?_⟩) (by assumption) ?_
             rotate_left
             focus (intro wq hSq; (try dsimp only at hSq); go_simp; (try (with_reducible rfl)); done))
          | (refine wpAnyH_take (i := 0) (v := undef) rfl (by kernel_rfl) (by kernel_rfl) (by kernel_rfl) (fun _ _ _ h => h) (Or.inr ⟨by rfl, rfl⟩) (by assumption) ?_)
          | fail "take 0")
        try simp only [Act.put, List.setIfInBounds_toArray, List.set_cons_zero, List.set_cons_succ, List.getElem_toArray, List.getElem_cons_zero]
        refine wpAnyH_ready (rs := [1]) (by kernel_rfl) (by simp) ?_
        refine AllReadyH.cons (o := _) rfl (fun K hK => ?_) AllReadyH.nil
        go_simp
        refine (HV.out _).mono ?_; rintro e w7 ⟨rfl, hb7⟩
        refine hK.out _ _ ?_ (fun hHeld => ?_)
        · exact e1 ((Below.refl _ _).drew.trans hb7)
        clear hK K
        try simp only [Act.put, List.setIfInBounds_toArray, List.set_cons_zero, List.set_cons_succ, List.getElem_toArray, List.getElem_cons_zero, List.getElem_cons_succ]
        (first
          | (refine wpAnyH_take (i := 2) (v := ?_) rfl (by kernel_rfl) (by kernel_rfl) (by kernel_rfl) (fun _ _ _ h => h) (Or.inl ⟨by rfl, ?_⟩) (by assumption) ?_
             rotate_left
             focus (intro wq hSq; (try dsimp only at hSq); go_simp; (try (with_reducible rfl)); done))
          | (refine wpAnyH_take (i := 2) (v := undef) rfl (by kernel_rfl) (by kernel_rfl) (by kernel_rfl) (fun _ _ _ h => h) (Or.inr ⟨by rfl, rfl⟩) (by assumption) ?_)
          | fail "take 2")
        try simp only [Act.put, List.setIfInBounds_toArray, List.set_cons_zero, List.set_cons_succ, List.getElem_toArray, List.getElem_cons_zero, List.getElem_cons_succ]
        (first
          | (refine wpAnyH_take (i := 3) (v := ?_) rfl (by kernel_rfl) (by kernel_rfl) (by kernel_rfl) (fun _ _ _ h => h) (Or.inl ⟨by rfl, ?_⟩) (by assumption) ?_
             rotate_left
             focus (intro wq hSq; (try dsimp only at hSq); go_simp; (try (with_reducible rfl)); done))
          | (refine wpAnyH_take (i := 3) (v := undef) rfl (by kernel_rfl) (by kernel_rfl) (by kernel_rfl) (fun _ _ _ h => h) (Or.inr ⟨by rfl, rfl⟩) (by assumption) ?_)
          | fail "take 3")
        try simp only [Act.put, List.setIfInBounds_toArray, List.set_cons_zero, List.set_cons_succ, List.getElem_toArray, List.getElem_cons_zero, List.getElem_cons_succ]
        (first
          | (refine wpAnyH_take (i := 4) (v := ?_) rfl (by kernel_rfl) (by kernel_rfl) (by kernel_rfl) (fun _ _ _ h => h) (Or.inl ⟨by rfl, ?_⟩) (by assumption) ?_
             rotate_left
             focus (intro wq hSq; (try dsimp only at hSq); go_simp; (try (with_reducible rfl)); done))
          | (refine wpAnyH_take (i := 4) (v := undef) rfl (by kernel_rfl) (by kernel_rfl) (by kernel_rfl) (fun _ _ _ h => h) (Or.inr ⟨by rfl, rfl⟩) (by assumption) ?_)
          | fail "take 4")
        try simp only [Act.put, List.setIfInBounds_toArray, List.set_cons_zero, List.set_cons_succ, List.getElem_toArray, List.getElem_cons_zero, List.getElem_cons_succ]
        (first
          | (refine wpAnyH_take (i := 5) (v := ?_) rfl (by kernel_rfl) (by kernel_rfl) (by kernel_rfl) (fun _ _ _ h => h) (Or.inl ⟨by rfl, ?_⟩) (by assumption) ?_
             rotate_left
             focus (intro wq hSq; (try dsimp only at hSq); go_simp; (try (with_reducible rfl)); done))
          | (refine wpAnyH_take (i := 5) (v := undef) rfl (by kernel_rfl) (by kernel_rfl) (by kernel_rfl) (fun _ _ _ h => h) (Or.inr ⟨by rfl, rfl⟩) (by assumption) ?_)
          | fail "take 5")
        try simp only [Act.put, List.setIfInBounds_toArray, List.set_cons_zero, List.set_cons_succ, List.getElem_toArray, List.getElem_cons_zero, List.getElem_cons_succ]
        (first
          | (refine wpAnyH_take (i := 6) (v := ?_) rfl (by kernel_rfl) (by kernel_rfl) (by kernel_rfl) (fun _ _ _ h => h) (Or.inl ⟨by rfl, ?_⟩) (by assumption) ?_
             rotate_left
             focus (intro wq hSq; (try dsimp only at hSq); go_simp; (try (with_reducible rfl)); done))
          | (refine wpAnyH_take (i := 6) (v := undef) rfl (by kernel_rfl) (by kernel_rfl) (by kernel_rfl) (fun _ _ _ h => h) (Or.inr ⟨by rfl, rfl⟩) (by assumption) ?_)
          | fail "take 6")
        try simp only [Act.put, List.setIfInBounds_toArray, List.set_cons_zero, List.set_cons_succ, List.getElem_toArray, List.getElem_cons_zero, List.getElem_cons_succ]
        (first
          | (refine wpAnyH_take (i := 7) (v := ?_) rfl (by kernel_rfl) (by kernel_rfl) (by kernel_rfl) (fun _ _ _ h => h) (Or.inl ⟨by rfl, ?_⟩) (by assumption) ?_
             rotate_left
             focus (intro wq hSq; (try dsimp only at hSq); go_simp; (try (with_reducible rfl)); done))
          | (refine wpAnyH_take (i := 7) (v := undef) rfl (by kernel_rfl) (by kernel_rfl) (by kernel_rfl) (fun _ _ _ h => h) (Or.inr ⟨by rfl, rfl⟩) (by assumption) ?_)
          | fail "take 7")
        try simp only [Act.put, List.setIfInBounds_toArray, List.set_cons_zero, List.set_cons_succ, List.getElem_toArray, List.getElem_cons_zero, List.getElem_cons_succ]
        (first
          | (refine wpAnyH_take (i := 8) (v := ?_) rfl (by kernel_rfl) (by kernel_rfl) (by kernel_rfl) (fun _ _ _ h => h) (Or.inl ⟨by rfl, ?_⟩) (by assumption) ?_
             rotate_left
             focus (intro wq hSq; (try dsimp only at hSq); go_simp; (try (with_reducible rfl)); done))
          | (refine wpAnyH_take (i := 8) (v := undef) rfl (by kernel_rfl) (by kernel_rfl) (by kernel_rfl) (fun _ _ _ h => h) (Or.inr ⟨by rfl, rfl⟩) (by assumption) ?_)
          | fail "take 8")
        try simp only [Act.put, List.setIfInBounds_toArray, List.set_cons_zero, List.set_cons_succ, List.getElem_toArray, List.getElem_cons_zero, List.getElem_cons_succ]
        (first
          | (refine wpAnyH_take (i := 9) (v := ?_) rfl (by kernel_rfl) (by kernel_rfl) (by kernel_rfl) (fun _ _ _ h => h) (Or.inl ⟨by rfl, ?_⟩) (by assumption) ?_
             rotate_left
             focus (intro wq hSq; (try dsimp only at hSq); go_simp; (try (with_reducible rfl)); done))
          | (refine wpAnyH_take (i := 9) (v := undef) rfl (by kernel_rfl) (by kernel_rfl) (by kernel_rfl) (fun _ _ _ h => h) (Or.inr ⟨by rfl, rfl⟩) (by assumption) ?_)
          | fail "take 9")
        try simp only [Act.put, List.setIfInBounds_toArray, List.set_cons_zero, List.set_cons_succ, List.getElem_toArray, List.getElem_cons_zero, List.getElem_cons_succ]
        (first
          | (refine wpAnyH_take (i := 10) (v := ?_) rfl (by kernel_rfl) (by kernel_rfl) (by kernel_rfl) (fun _ _ _ h => h) (Or.inl ⟨by rfl, ?_⟩) (by assumption) ?_
             rotate_left
             focus (intro wq hSq; (try dsimp only at hSq); go_simp; (try (with_reducible rfl)); done))
          | (refine wpAnyH_take (i := 10) (v := undef) rfl (by kernel_rfl) (by kernel_rfl) (by kernel_rfl) (fun _ _ _ h => h) (Or.inr ⟨by rfl, rfl⟩) (by assumption) ?_)
          | fail "take 10")
        try simp only [Act.put, List.setIfInBounds_toArray, List.set_cons_zero, List.set_cons_succ, List.getElem_toArray, List.getElem_cons_zero, List.getElem_cons_succ]
        (first
          | (refine wpAnyH_take (i := 11) (v := ?_) rfl (by kernel_rfl) (by kernel_rfl) (by kernel_rfl) (fun _ _ _ h => h) (Or.inl ⟨by rfl, ?_⟩) (by assumption) ?_
             rotate_left
             focus (intro wq hSq; (try dsimp only at hSq); go_simp; (try (with_reducible rfl)); done))
          | (refine wpAnyH_take (i := 11) (v := undef) rfl (by kernel_rfl) (by kernel_rfl) (by kernel_rfl) (fun _ _ _ h => h) (Or.inr ⟨by rfl, rfl⟩) (by assumption) ?_)
          | fail "take 11")
        try simp only [Act.put, List.setIfInBounds_toArray, List.set_cons_zero, List.set_cons_succ, List.getElem_toArray, List.getElem_cons_zero, List.getElem_cons_succ]
        (first
          | (refine wpAnyH_take (i := 12) (v := ?_) rfl (by kernel_rfl) (by kernel_rfl) (by kernel_rfl) (fun _ _ _ h => h) (Or.inl ⟨by rfl, ?_⟩) (by assumption) ?_
             rotate_left
             focus (intro wq hSq; (try dsimp only at hSq); go_simp; (try (with_reducible rfl)); done))
          | (refine wpAnyH_take (i := 12) (v := undef) rfl (by kernel_rfl) (by kernel_rfl) (by kernel_rfl) (fun _ _ _ h => h) (Or.inr ⟨by rfl, rfl⟩) (by assumption) ?_)
          | fail "take 12")
        try simp only [Act.put, List.setIfInBounds_toArray, List.set_cons_zero, List.set_cons_succ, List.getElem_toArray, List.getElem_cons_zero, List.getElem_cons_succ]
        (first
          | (refine wpAnyH_take (i := 13) (v := ?_) rfl (by kernel_rfl) (by kernel_rfl) (by kernel_rfl) (fun _ _ _ h => h) (Or.inl ⟨by rfl, ?_⟩) (by assumption) ?_
             rotate_left
             focus (intro wq hSq; (try dsimp only at hSq); go_simp; (try (with_reducible rfl)); done))
          | (refine wpAnyH_take (i := 13) (v := undef) rfl (by kernel_rfl) (by kernel_rfl) (by kernel_rfl) (fun _ _ _ h => h) (Or.inr ⟨by rfl, rfl⟩) (by assumption) ?_)
          | fail "take 13")
        try simp only [Act.put, List.setIfInBounds_toArray, List.set_cons_zero, List.set_cons_succ, List.getElem_toArray, List.getElem_cons_zero, List.getElem_cons_succ]
        (first
          | (refine wpAnyH_take (i := 14) (v := ?_) rfl (by kernel_rfl) (by kernel_rfl) (by kernel_rfl) (fun _ _ _ h => h) (Or.inl ⟨by rfl, ?_⟩) (by assumption) ?_
             rotate_left
             focus (intro wq hSq; (try dsimp only at hSq); go_simp; (try (with_reducible rfl)); done))
          | (refine wpAnyH_take (i := 14) (v := undef) rfl (by kernel_rfl) (by kernel_rfl) (by kernel_rfl) (fun _ _ _ h => h) (Or.inr ⟨by rfl, rfl⟩) (by assumption) ?_)
          | fail "take 14")
        try simp only [Act.put, List.setIfInBounds_toArray, List.set_cons_zero, List.set_cons_succ, List.getElem_toArray, List.getElem_cons_zero, List.getElem_cons_succ]
        (first
          | (refine wpAnyH_take (i := 15) (v := ?_) rfl (by kernel_rfl) (by kernel_rfl) (by kernel_rfl) (fun _ _ _ h => h) (Or.inl ⟨by rfl, ?_⟩) (by assumption) ?_
             rotate_left
             focus (intro wq hSq; (try dsimp only at hSq); go_simp; (try (with_reducible rfl)); done))
          | (refine wpAnyH_take (i := 15) (v := undef) rfl (by kernel_rfl) (by kernel_rfl) (by kernel_rfl) (fun _ _ _ h => h) (Or.inr ⟨by rfl, rfl⟩) (by assumption) ?_)
          | fail "take 15")
        try simp only [Act.put, List.setIfInBounds_toArray, List.set_cons_zero, List.set_cons_succ, List.getElem_toArray, List.getElem_cons_zero, List.getElem_cons_succ]
        (first
          | (refine wpAnyH_take (i := 16) (v := ?_) rfl (by kernel_rfl) (by kernel_rfl) (by kernel_rfl) (fun _ _ _ h => h) (Or.inl ⟨by rfl, ?_⟩) (by assumption) ?_
             rotate_left
             focus (intro wq hSq; (try dsimp only at hSq); go_simp; (try (with_reducible rfl)); done))
          | (refine wpAnyH_take (i := 16) (v := undef) rfl (by kernel_rfl) (by kernel_rfl) (by kernel_rfl) (fun _ _ _ h => h) (Or.inr ⟨by rfl, rfl⟩) (by assumption) ?_)
          | fail "take 16")
        try simp only [Act.put, List.setIfInBounds_toArray, List.set_cons_zero, List.set_cons_succ, List.getElem_toArray, List.getElem_cons_zero, List.getElem_cons_succ]
        (first
          | (refine wpAnyH_take (i := 17) (v := ?_) rfl (by kernel_rfl) (by kernel_rfl) (by kernel_rfl) (fun _ _ _ h => h) (Or.inl ⟨by rfl, ?_⟩) (by assumption) ?_
             rotate_left
             focus (intro wq hSq; (try dsimp only at hSq); go_simp; (try (with_reducible rfl)); done))
          | (refine wpAnyH_take (i := 17) (v := undef) rfl (by kernel_rfl) (by kernel_rfl) (by kernel_rfl) (fun _ _ _ h => h) (Or.inr ⟨by rfl, rfl⟩) (by assumption) ?_)
          | fail "take 17")
        try simp only [Act.put, List.setIfInBounds_toArray, List.set_cons_zero, List.set_cons_succ, List.getElem_toArray, List.getElem_cons_zero, List.getElem_cons_succ]
        refine wpAnyH_done (by kernel_rfl) ?_ _
        have hb8 := (Below.refl w0.heap.size w0).drew.trans hb7
        go_wp2_with fail
        go_ret
        exact ⟨ret_eq (bool_eq HR0.out.symm), hbw0.trans (hb8.mono hbw0.size)⟩
      · rw [hok] at HV
        obtain ⟨hf, ht, _⟩ := secOk_bd hok
        rcases Nat.eq_zero_or_pos k with hk0 | hk0
        · have HN : Hid (∀ r, r < k + 1 → 0 < r → (sAt xs (r - 1)).f < (sAt xs r).f) := Lib.hid fun r a b => absurd b (by omega)
          clear hp
          have k0 : ¬ 0 < k := by omega
          have Hk0 := Lib.hid hk0; clear hk0
          have Hok := Lib.hid hok; clear hok
          go_wp2
          try rw [hw0]
          try rw [hg]
          clear hw0 hg q1 c1 c2 c3
          have e1 : ∀ {w' : World}, Below w0.heap.size w0 w' → (Below w0.heap.size w0 w' ∧ (∀ x, w'.cell? ⟨b, x, none⟩ = w0.cell? ⟨b, x, none⟩) ∧ (∀ x, w'.cell? ⟨g, x, none⟩ = w0.cell? ⟨g, x, none⟩)) := fun hbb => ⟨hbb, keepC hbb _ hb0, keepC hbb _ hg0⟩
          refine wp_region_held_drew (S := fun w' => Below w0.heap.size w0 w' ∧ (∀ x, w'.cell? ⟨b, x, none⟩ = w0.cell? ⟨b, x, none⟩) ∧ (∀ x, w'.cell? ⟨g, x, none⟩ = w0.cell? ⟨g, x, none⟩)) (by kernel_rfl) (e1 (Below.refl _ _).drew) (fun hHeld => ?_)
          (first
            | (refine wpAnyH_take (i := 0) (v := ?_) rfl (by kernel_rfl) (by kernel_rfl) (by kernel_rfl) (fun _ _ _ h => h) (Or.inl ⟨by rfl, ?_⟩) (by assumption) ?_
               rotate_left
               focus (intro wq hSq; (try dsimp only at hSq); go_simp; (try (with_reducible rfl)); done))
            | (refine wpAnyH_take (i := 0) (v := undef) rfl (by kernel_rfl) (by kernel_rfl) (by kernel_rfl) (fun _ _ _ h => h) (Or.inr ⟨by rfl, rfl⟩) (by assumption) ?_)
            | fail "take 0")
          try simp only [Act.put, List.setIfInBounds_toArray, List.set_cons_zero, List.set_cons_succ, List.getElem_toArray, List.getElem_cons_zero]
          refine wpAnyH_ready (rs := [1]) (by kernel_rfl) (by simp) ?_
          refine AllReadyH.cons (o := _) rfl (fun K hK => ?_) AllReadyH.nil
          go_simp
          refine (HV.out _).mono ?_; rintro e w7 ⟨rfl, hb7⟩
          refine hK.out _ _ ?_ (fun hHeld => ?_)
          · exact e1 ((Below.refl _ _).drew.trans hb7)
          clear hK K
          try simp only [Act.put, List.setIfInBounds_toArray, List.set_cons_zero, List.set_cons_succ, List.getElem_toArray, List.getElem_cons_zero, List.getElem_cons_succ]
          (first
            | (refine wpAnyH_take (i := 2) (v := ?_) rfl (by kernel_rfl) (by kernel_rfl) (by kernel_rfl) (fun _ _ _ h => h) (Or.inl ⟨by rfl, ?_⟩) (by assumption) ?_
               rotate_left
               focus (intro wq hSq; (try dsimp only at hSq); go_simp; (try (with_reducible rfl)); done))
            | (refine wpAnyH_take (i := 2) (v := undef) rfl (by kernel_rfl) (by kernel_rfl) (by kernel_rfl) (fun _ _ _ h => h) (Or.inr ⟨by rfl, rfl⟩) (by assumption) ?_)
            | fail "take 2")
          try simp only [Act.put, List.setIfInBounds_toArray, List.set_cons_zero, List.set_cons_succ, List.getElem_toArray, List.getElem_cons_zero, List.getElem_cons_succ]
          (first
            | (refine wpAnyH_take (i := 3) (v := ?_) rfl (by kernel_rfl) (by kernel_rfl) (by kernel_rfl) (fun _ _ _ h => h) (Or.inl ⟨by rfl, ?_⟩) (by assumption) ?_
               rotate_left
               focus (intro wq hSq; (try dsimp only at hSq); go_simp; (try (with_reducible rfl)); done))
            | (refine wpAnyH_take (i := 3) (v := undef) rfl (by kernel_rfl) (by kernel_rfl) (by kernel_rfl) (fun _ _ _ h => h) (Or.inr ⟨by rfl, rfl⟩) (by assumption) ?_)
            | fail "take 3")
          try simp only [Act.put, List.setIfInBounds_toArray, List.set_cons_zero, List.set_cons_succ, List.getElem_toArray, List.getElem_cons_zero, List.getElem_cons_succ]
          (first
            | (refine wpAnyH_take (i := 4) (v := ?_) rfl (by kernel_rfl) (by kernel_rfl) (by kernel_rfl) (fun _ _ _ h => h) (Or.inl ⟨by rfl, ?_⟩) (by assumption) ?_
               rotate_left
               focus (intro wq hSq; (try dsimp only at hSq); go_simp; (try (with_reducible rfl)); done))
            | (refine wpAnyH_take (i := 4) (v := undef) rfl (by kernel_rfl) (by kernel_rfl) (by kernel_rfl) (fun _ _ _ h => h) (Or.inr ⟨by rfl, rfl⟩) (by assumption) ?_)
            | fail "take 4")
          try simp only [Act.put, List.setIfInBounds_toArray, List.set_cons_zero, List.set_cons_succ, List.getElem_toArray, List.getElem_cons_zero, List.getElem_cons_succ]
          (first
            | (refine wpAnyH_take (i := 5) (v := ?_) rfl (by kernel_rfl) (by kernel_rfl) (by kernel_rfl) (fun _ _ _ h => h) (Or.inl ⟨by rfl, ?_⟩) (by assumption) ?_
               rotate_left
               focus (intro wq hSq; (try dsimp only at hSq); go_simp; (try (with_reducible rfl)); done))
            | (refine wpAnyH_take (i := 5) (v := undef) rfl (by kernel_rfl) (by kernel_rfl) (by kernel_rfl) (fun _ _ _ h => h) (Or.inr ⟨by rfl, rfl⟩) (by assumption) ?_)
            | fail "take 5")
          try simp only [Act.put, List.setIfInBounds_toArray, List.set_cons_zero, List.set_cons_succ, List.getElem_toArray, List.getElem_cons_zero, List.getElem_cons_succ]
          (first
            | (refine wpAnyH_take (i := 6) (v := ?_) rfl (by kernel_rfl) (by kernel_rfl) (by kernel_rfl) (fun _ _ _ h => h) (Or.inl ⟨by rfl, ?_⟩) (by assumption) ?_
               rotate_left
               focus (intro wq hSq; (try dsimp only at hSq); go_simp; (try (with_reducible rfl)); done))
            | (refine wpAnyH_take (i := 6) (v := undef) rfl (by kernel_rfl) (by kernel_rfl) (by kernel_rfl) (fun _ _ _ h => h) (Or.inr ⟨by rfl, rfl⟩) (by assumption) ?_)
            | fail "take 6")
          try simp only [Act.put, List.setIfInBounds_toArray, List.set_cons_zero, List.set_cons_succ, List.getElem_toArray, List.getElem_cons_zero, List.getElem_cons_succ]
          (first
            | (refine wpAnyH_take (i := 7) (v := ?_) rfl (by kernel_rfl) (by kernel_rfl) (by kernel_rfl) (fun _ _ _ h => h) (Or.inl ⟨by rfl, ?_⟩) (by assumption) ?_
               rotate_left
               focus (intro wq hSq; (try dsimp only at hSq); go_simp; (try (with_reducible rfl)); done))
            | (refine wpAnyH_take (i := 7) (v := undef) rfl (by kernel_rfl) (by kernel_rfl) (by kernel_rfl) (fun _ _ _ h => h) (Or.inr ⟨by rfl, rfl⟩) (by assumption) ?_)
            | fail "take 7")
          try simp only [Act.put, List.setIfInBounds_toArray, List.set_cons_zero, List.set_cons_succ, List.getElem_toArray, List.getElem_cons_zero, List.getElem_cons_succ]
          (first
            | (refine wpAnyH_take (i := 8) (v := ?_) rfl (by kernel_rfl) (by kernel_rfl) (by kernel_rfl) (fun _ _ _ h => h) (Or.inl ⟨by rfl, ?_⟩) (by assumption) ?_
               rotate_left
               focus (intro wq hSq; (try dsimp only at hSq); go_simp; (try (with_reducible rfl)); done))
            | (refine wpAnyH_take (i := 8) (v := undef) rfl (by kernel_rfl) (by kernel_rfl) (by kernel_rfl) (fun _ _ _ h => h) (Or.inr ⟨by rfl, rfl⟩) (by assumption) ?_)
            | fail "take 8")
          try simp only [Act.put, List.setIfInBounds_toArray, List.set_cons_zero, List.set_cons_succ, List.getElem_toArray, List.getElem_cons_zero, List.getElem_cons_succ]
          (first
            | (refine wpAnyH_take (i := 9) (v := ?_) rfl (by kernel_rfl) (by kernel_rfl) (by kernel_rfl) (fun _ _ _ h => h) (Or.inl ⟨by rfl, ?_⟩) (by assumption) ?_
               rotate_left
               focus (intro wq hSq; (try dsimp only at hSq); go_simp; (try (with_reducible rfl)); done))
            | (refine wpAnyH_take (i := 9) (v := undef) rfl (by kernel_rfl) (by kernel_rfl) (by kernel_rfl) (fun _ _ _ h => h) (Or.inr ⟨by rfl, rfl⟩) (by assumption) ?_)
            | fail "take 9")
          try simp only [Act.put, List.setIfInBounds_toArray, List.set_cons_zero, List.set_cons_succ, List.getElem_toArray, List.getElem_cons_zero, List.getElem_cons_succ]
          (first
            | (refine wpAnyH_take (i := 10) (v := ?_) rfl (by kernel_rfl) (by kernel_rfl) (by kernel_rfl) (fun _ _ _ h => h) (Or.inl ⟨by rfl, ?_⟩) (by assumption) ?_
               rotate_left
               focus (intro wq hSq; (try dsimp only at hSq); go_simp; (try (with_reducible rfl)); done))
            | (refine wpAnyH_take (i := 10) (v := undef) rfl (by kernel_rfl) (by kernel_rfl) (by kernel_rfl) (fun _ _ _ h => h) (Or.inr ⟨by rfl, rfl⟩) (by assumption) ?_)
            | fail "take 10")
          try simp only [Act.put, List.setIfInBounds_toArray, List.set_cons_zero, List.set_cons_succ, List.getElem_toArray, List.getElem_cons_zero, List.getElem_cons_succ]
          (first
            | (refine wpAnyH_take (i := 11) (v := ?_) rfl (by kernel_rfl) (by kernel_rfl) (by kernel_rfl) (fun _ _ _ h => h) (Or.inl ⟨by rfl, ?_⟩) (by assumption) ?_
               rotate_left
               focus (intro wq hSq; (try dsimp only at hSq); go_simp; (try (with_reducible rfl)); done))
            | (refine wpAnyH_take (i := 11) (v := undef) rfl (by kernel_rfl) (by kernel_rfl) (by kernel_rfl) (fun _ _ _ h => h) (Or.inr ⟨by rfl, rfl⟩) (by assumption) ?_)
            | fail "take 11")
          try simp only [Act.put, List.setIfInBounds_toArray, List.set_cons_zero, List.set_cons_succ, List.getElem_toArray, List.getElem_cons_zero, List.getElem_cons_succ]
          (first
            | (refine wpAnyH_take (i := 12) (v := ?_) rfl (by kernel_rfl) (by kernel_rfl) (by kernel_rfl) (fun _ _ _ h => h) (Or.inl ⟨by rfl, ?_⟩) (by assumption) ?_
               rotate_left
               focus (intro wq hSq; (try dsimp only at hSq); go_simp; (try (with_reducible rfl)); done))
            | (refine wpAnyH_take (i := 12) (v := undef) rfl (by kernel_rfl) (by kernel_rfl) (by kernel_rfl) (fun _ _ _ h => h) (Or.inr ⟨by rfl, rfl⟩) (by assumption) ?_)
            | fail "take 12")
          try simp only [Act.put, List.setIfInBounds_toArray, List.set_cons_zero, List.set_cons_succ, List.getElem_toArray, List.getElem_cons_zero, List.getElem_cons_succ]
          (first
            | (refine wpAnyH_take (i := 13) (v := ?_) rfl (by kernel_rfl) (by kernel_rfl) (by kernel_rfl) (fun _ _ _ h => h) (Or.inl ⟨by rfl, ?_⟩) (by assumption) ?_
               rotate_left
               focus (intro wq hSq; (try dsimp only at hSq); go_simp; (try (with_reducible rfl)); done))
            | (refine wpAnyH_take (i := 13) (v := undef) rfl (by kernel_rfl) (by kernel_rfl) (by kernel_rfl) (fun _ _ _ h => h) (Or.inr ⟨by rfl, rfl⟩) (by assumption) ?_)
            | fail "take 13")
          try simp only [Act.put, List.setIfInBounds_toArray, List.set_cons_zero, List.set_cons_succ, List.getElem_toArray, List.getElem_cons_zero, List.getElem_cons_succ]
          (first
            | (refine wpAnyH_take (i := 14) (v := ?_) rfl (by kernel_rfl) (by kernel_rfl) (by kernel_rfl) (fun _ _ _ h => h) (Or.inl ⟨by rfl, ?_⟩) (by assumption) ?_
               rotate_left
               focus (intro wq hSq; (try dsimp only at hSq); go_simp; (try (with_reducible rfl)); done))
            | (refine wpAnyH_take (i := 14) (v := undef) rfl (by kernel_rfl) (by kernel_rfl) (by kernel_rfl) (fun _ _ _ h => h) (Or.inr ⟨by rfl, rfl⟩) (by assumption) ?_)
            | fail "take 14")
          try simp only [Act.put, List.setIfInBounds_toArray, List.set_cons_zero, List.set_cons_succ, List.getElem_toArray, List.getElem_cons_zero, List.getElem_cons_succ]
          (first
            | (refine wpAnyH_take (i := 15) (v := ?_) rfl (by kernel_rfl) (by kernel_rfl) (by kernel_rfl) (fun _ _ _ h => h) (Or.inl ⟨by rfl, ?_⟩) (by assumption) ?_
               rotate_left
               focus (intro wq hSq; (try dsimp only at hSq); go_simp; (try (with_reducible rfl)); done))
            | (refine wpAnyH_take (i := 15) (v := undef) rfl (by kernel_rfl) (by kernel_rfl) (by kernel_rfl) (fun _ _ _ h => h) (Or.inr ⟨by rfl, rfl⟩) (by assumption) ?_)
            | fail "take 15")
          try simp only [Act.put, List.setIfInBounds_toArray, List.set_cons_zero, List.set_cons_succ, List.getElem_toArray, List.getElem_cons_zero, List.getElem_cons_succ]
          (first
            | (refine wpAnyH_take (i := 16) (v := ?_) rfl (by kernel_rfl) (by kernel_rfl) (by kernel_rfl) (fun _ _ _ h => h) (Or.inl ⟨by rfl, ?_⟩) (by assumption) ?_
               rotate_left
               focus (intro wq hSq; (try dsimp only at hSq); go_simp; (try (with_reducible rfl)); done))
            | (refine wpAnyH_take (i := 16) (v := undef) rfl (by kernel_rfl) (by kernel_rfl) (by kernel_rfl) (fun _ _ _ h => h) (Or.inr ⟨by rfl, rfl⟩) (by assumption) ?_)
            | fail "take 16")
          try simp only [Act.put, List.setIfInBounds_toArray, List.set_cons_zero, List.set_cons_succ, List.getElem_toArray, List.getElem_cons_zero, List.getElem_cons_succ]
          (first
            | (refine wpAnyH_take (i := 17) (v := ?_) rfl (by kernel_rfl) (by kernel_rfl) (by kernel_rfl) (fun _ _ _ h => h) (Or.inl ⟨by rfl, ?_⟩) (by assumption) ?_
               rotate_left
               focus (intro wq hSq; (try dsimp only at hSq); go_simp; (try (with_reducible rfl)); done))
            | (refine wpAnyH_take (i := 17) (v := undef) rfl (by kernel_rfl) (by kernel_rfl) (by kernel_rfl) (fun _ _ _ h => h) (Or.inr ⟨by rfl, rfl⟩) (by assumption) ?_)
            | fail "take 17")
          try simp only [Act.put, List.setIfInBounds_toArray, List.set_cons_zero, List.set_cons_succ, List.getElem_toArray, List.getElem_cons_zero, List.getElem_cons_succ]
          refine wpAnyH_done (by kernel_rfl) ?_ _
          have hb8 := (Below.refl w0.heap.size w0).drew.trans hb7
          clear hHeld
          have hbw7 : Below w.heap.size w w7 := hbw0.trans (hb8.mono hbw0.size)
          go_wp2_with fail
          go_loopw [35] (fun i wr2 => ∃ j : Nat, j ≤ n ∧ i = .int .i64 j ∧ Hid (∀ q, q < j → k ≠ q → secOk (sAt xs q) = true → arcI s.f s.t ≤ distI s.f (sAt xs q).f) ∧ Below w0.heap.size w0 wr2) (fun i _ => n - (intOf i).toNat)
          case atStart => exact ⟨0, Nat.zero_le _, rfl, Lib.hid (fun q hq => absurd hq (by omega)), hb8⟩
          case round =>
            clear hb8 hb7 hbw7 k1 k2 k3
            obtain ⟨j, hj, rfl, HJ, hb9⟩ := hrel
            have hbw9 : Below w.heap.size w wr := hbw0.trans (hb9.mono hbw0.size)
            have m1 := (keepC hb9 g hg0 _).trans g1
            have m2 := (keepC hb9 g hg0 _).trans g2
            have m3 := (keepC hb9 g hg0 _).trans g3
            by_cases hlj : j < n
            · obtain ⟨b2, off2, o, e2, _, ho, d1, d2, d3⟩ := h.sec j hlj
              injection e2 with e2; injection e2 with e3 e4 _
              subst e3 e4
              have q9 := keepC hbw9 b hb
              have q0 := keepC hbw0 b hb
              have i1 : (0 : Int) ≤ (j : Int) := by omega
              have i9 : (j : Int) < (n : Int) := by omega
              have hos := sAt_eq ho
              have hx : Below w0.heap.size w0 (wr.alloc (.cells #[.int .i64 o.f, .int .i64 o.t, .string o.c] 109)) := by (repeat (first | (with_reducible assumption) | (with_reducible exact Below.refl _ _) | exact Nat.le_refl _ | exact Below.size (by with_reducible assumption) | (with_reducible refine Below.drew ?_) | (with_reducible refine below_drewN ?_ _) | (with_reducible refine Below.alloc ?_ ?_ _) | (with_reducible refine Below.setCell ?_ ?_ _) | (with_reducible refine le_alloc ?_ _) | (with_reducible refine le_set ?_ _ _) | (with_reducible refine le_drew ?_) | (with_reducible refine le_drewN ?_ _) | omega | (dsimp only; omega)))
              have Hos := Lib.hid hos; clear hos
              have Ho := Lib.hid ho; clear ho
              by_cases hjk : j = k
              · have e0 : ((j : Int) != (k : Int)) = false := by rw [hjk]; simp
                have Hjk := Lib.hid hjk; clear hjk
                go_wp2_with fail
                go_roundw
                case rel =>
                  refine ⟨j + 1, by omega, by go_num, Lib.hid (fun q hq hne hoq => ?_), hx⟩
                  rcases Nat.lt_or_ge q j with h1 | h1
                  · exact HJ.out q h1 hne hoq
                  · have := Hjk.out; omega
                case measure => simp [intOf]; omega
              · have e0 : ((j : Int) != (k : Int)) = true := by simp; omega
                go_wp2_with (go_at_call 120; refine (has_c s.f s.t s.c o.f _ hf ht).mono ?_; rintro e w10 ⟨r, rfl, hr, hb10⟩; have Hr := Lib.hid hr; clear hr)
                · go_ret
                  refine ⟨ret_eq (bool_eq ?_), hbw0.trans ((hx.trans (hb10.mono hx.size)).mono hbw0.size)⟩
                  rw [← HR.out]
                  refine (secsB_no fun hP => ?_).symm
                  have h3 := hP.2.2 k (by rw [Hl.out]; exact hlt) j (by rw [Hl.out]; exact hlj) (by omega)
                  have h4 := hP.1 j (by rw [Hl.out]; exact hlj)
                  rw [Hos.out] at h4
                  rw [Hos.out, Hsk.out] at h3
                  have h5 := Hr.out (secOk_bd h4).1
                  have h6 : r = true := by assumption
                  rw [h6] at h5
                  have h7 := of_decide_eq_true h5.symm
                  omega
                · go_roundw
                  case rel =>
                    refine ⟨j + 1, by omega, by go_num, Lib.hid (fun q hq hne hoq => ?_), hx.trans (hb10.mono hx.size)⟩
                    rcases Nat.lt_or_ge q j with h1 | h1
                    · exact HJ.out q h1 hne hoq
                    · obtain rfl : q = j := by omega
                      rw [Hos.out] at hoq ⊢
                      have h5 := Hr.out (secOk_bd hoq).1
                      have h6 : r = false := by assumption
                      rw [h6] at h5
                      have h7 := of_decide_eq_false h5.symm
                      omega
                  case measure => simp [intOf]; omega
            · have harc := arc_bd s.f s.t
              go_wp2_with (go_at_call 121; refine (arc_c s.f s.t s.c _ hf ht).mono ?_; rintro e w11 ⟨rfl, hb11⟩)
              go_roundw
              case rel =>
                refine ⟨k + 1, by omega, by go_num, by rw [Hnx.out], Lib.hid (fun r hr => ?_), HN, Lib.hid (fun r hr q hq hne hoq => ?_), hbw9.trans (hb11.mono hbw9.size)⟩
                · rcases Nat.lt_or_ge r k with h1 | h1
                  · exact H1.out r h1
                  · obtain rfl : r = k := by omega
                    rw [Hsk.out]; exact Hok.out
                · rcases Nat.lt_or_ge r k with h1 | h1
                  · exact H3.out r h1 q hq hne hoq
                  · obtain rfl : r = k := by omega
                    rw [Hsk.out]
                    exact HJ.out q (by omega) hne hoq
              case measure => simp [intOf]; omega
        · obtain ⟨p, hpx, hpc⟩ := hp hk0
          clear hp
          have hps := sAt_eq hpx
          have k0 : (0 : Int) < (k : Int) := by omega
          obtain ⟨kp, hkp⟩ : ∃ kp, k - 1 = kp := ⟨_, rfl⟩
          have hwp : IntKind.i64.wrap ((k : Int) - 1) = (kp : Int) := by rw [IntWalk.i64_in _ (by omega)]; omega
          have i2 : (kp : Int) < (n : Int) := by omega
          rw [hkp] at hpc
          have Hkp := Lib.hid hkp; clear hkp
          have Hpx := Lib.hid hpx; clear hpx
          have Hps := Lib.hid hps; clear hps
          by_cases hge : s.f ≤ p.f
          · have hR : R = false := by
              rw [← HR.out]; refine secsB_no fun hP => ?_
              have := hP.2.1 k (by rw [Hl.out]; exact hlt) hk0
              rw [Hsk.out, Hps.out] at this; omega
            have Hok := Lib.hid hok; clear hok
            have HR0 := Lib.hid hR; clear hR
            go_wp2
            try rw [hw0]
            try rw [hg]
            clear hw0 hg q1 c1 c2 c3
            have e1 : ∀ {w' : World}, Below w0.heap.size w0 w' → (Below w0.heap.size w0 w' ∧ (∀ x, w'.cell? ⟨b, x, none⟩ = w0.cell? ⟨b, x, none⟩) ∧ (∀ x, w'.cell? ⟨g, x, none⟩ = w0.cell? ⟨g, x, none⟩)) := fun hbb => ⟨hbb, keepC hbb _ hb0, keepC hbb _ hg0⟩
            refine wp_region_held_drew (S := fun w' => Below w0.heap.size w0 w' ∧ (∀ x, w'.cell? ⟨b, x, none⟩ = w0.cell? ⟨b, x, none⟩) ∧ (∀ x, w'.cell? ⟨g, x, none⟩ = w0.cell? ⟨g, x, none⟩)) (by kernel_rfl) (e1 (Below.refl _ _).drew) (fun hHeld => ?_)
            (first
              | (refine wpAnyH_take (i := 0) (v := ?_) rfl (by kernel_rfl) (by kernel_rfl) (by kernel_rfl) (fun _ _ _ h => h) (Or.inl ⟨by rfl, ?_⟩) (by assumption) ?_
                 rotate_left
                 focus (intro wq hSq; (try dsimp only at hSq); go_simp; (try (with_reducible rfl)); done))
              | (refine wpAnyH_take (i := 0) (v := undef) rfl (by kernel_rfl) (by kernel_rfl) (by kernel_rfl) (fun _ _ _ h => h) (Or.inr ⟨by rfl, rfl⟩) (by assumption) ?_)
              | fail "take 0")
            try simp only [Act.put, List.setIfInBounds_toArray, List.set_cons_zero, List.set_cons_succ, List.getElem_toArray, List.getElem_cons_zero]
            refine wpAnyH_ready (rs := [1]) (by kernel_rfl) (by simp) ?_
            refine AllReadyH.cons (o := _) rfl (fun K hK => ?_) AllReadyH.nil
            go_simp
            refine (HV.out _).mono ?_; rintro e w7 ⟨rfl, hb7⟩
            refine hK.out _ _ ?_ (fun hHeld => ?_)
            · exact e1 ((Below.refl _ _).drew.trans hb7)
            clear hK K
            try simp only [Act.put, List.setIfInBounds_toArray, List.set_cons_zero, List.set_cons_succ, List.getElem_toArray, List.getElem_cons_zero, List.getElem_cons_succ]
            (first
              | (refine wpAnyH_take (i := 2) (v := ?_) rfl (by kernel_rfl) (by kernel_rfl) (by kernel_rfl) (fun _ _ _ h => h) (Or.inl ⟨by rfl, ?_⟩) (by assumption) ?_
                 rotate_left
                 focus (intro wq hSq; (try dsimp only at hSq); go_simp; (try (with_reducible rfl)); done))
              | (refine wpAnyH_take (i := 2) (v := undef) rfl (by kernel_rfl) (by kernel_rfl) (by kernel_rfl) (fun _ _ _ h => h) (Or.inr ⟨by rfl, rfl⟩) (by assumption) ?_)
              | fail "take 2")
            try simp only [Act.put, List.setIfInBounds_toArray, List.set_cons_zero, List.set_cons_succ, List.getElem_toArray, List.getElem_cons_zero, List.getElem_cons_succ]
            (first
              | (refine wpAnyH_take (i := 3) (v := ?_) rfl (by kernel_rfl) (by kernel_rfl) (by kernel_rfl) (fun _ _ _ h => h) (Or.inl ⟨by rfl, ?_⟩) (by assumption) ?_
                 rotate_left
                 focus (intro wq hSq; (try dsimp only at hSq); go_simp; (try (with_reducible rfl)); done))
              | (refine wpAnyH_take (i := 3) (v := undef) rfl (by kernel_rfl) (by kernel_rfl) (by kernel_rfl) (fun _ _ _ h => h) (Or.inr ⟨by rfl, rfl⟩) (by assumption) ?_)
              | fail "take 3")
            try simp only [Act.put, List.setIfInBounds_toArray, List.set_cons_zero, List.set_cons_succ, List.getElem_toArray, List.getElem_cons_zero, List.getElem_cons_succ]
            (first
              | (refine wpAnyH_take (i := 4) (v := ?_) rfl (by kernel_rfl) (by kernel_rfl) (by kernel_rfl) (fun _ _ _ h => h) (Or.inl ⟨by rfl, ?_⟩) (by assumption) ?_
                 rotate_left
                 focus (intro wq hSq; (try dsimp only at hSq); go_simp; (try (with_reducible rfl)); done))
              | (refine wpAnyH_take (i := 4) (v := undef) rfl (by kernel_rfl) (by kernel_rfl) (by kernel_rfl) (fun _ _ _ h => h) (Or.inr ⟨by rfl, rfl⟩) (by assumption) ?_)
              | fail "take 4")
            try simp only [Act.put, List.setIfInBounds_toArray, List.set_cons_zero, List.set_cons_succ, List.getElem_toArray, List.getElem_cons_zero, List.getElem_cons_succ]
            (first
              | (refine wpAnyH_take (i := 5) (v := ?_) rfl (by kernel_rfl) (by kernel_rfl) (by kernel_rfl) (fun _ _ _ h => h) (Or.inl ⟨by rfl, ?_⟩) (by assumption) ?_
                 rotate_left
                 focus (intro wq hSq; (try dsimp only at hSq); go_simp; (try (with_reducible rfl)); done))
              | (refine wpAnyH_take (i := 5) (v := undef) rfl (by kernel_rfl) (by kernel_rfl) (by kernel_rfl) (fun _ _ _ h => h) (Or.inr ⟨by rfl, rfl⟩) (by assumption) ?_)
              | fail "take 5")
            try simp only [Act.put, List.setIfInBounds_toArray, List.set_cons_zero, List.set_cons_succ, List.getElem_toArray, List.getElem_cons_zero, List.getElem_cons_succ]
            (first
              | (refine wpAnyH_take (i := 6) (v := ?_) rfl (by kernel_rfl) (by kernel_rfl) (by kernel_rfl) (fun _ _ _ h => h) (Or.inl ⟨by rfl, ?_⟩) (by assumption) ?_
                 rotate_left
                 focus (intro wq hSq; (try dsimp only at hSq); go_simp; (try (with_reducible rfl)); done))
              | (refine wpAnyH_take (i := 6) (v := undef) rfl (by kernel_rfl) (by kernel_rfl) (by kernel_rfl) (fun _ _ _ h => h) (Or.inr ⟨by rfl, rfl⟩) (by assumption) ?_)
              | fail "take 6")
            try simp only [Act.put, List.setIfInBounds_toArray, List.set_cons_zero, List.set_cons_succ, List.getElem_toArray, List.getElem_cons_zero, List.getElem_cons_succ]
            (first
              | (refine wpAnyH_take (i := 7) (v := ?_) rfl (by kernel_rfl) (by kernel_rfl) (by kernel_rfl) (fun _ _ _ h => h) (Or.inl ⟨by rfl, ?_⟩) (by assumption) ?_
                 rotate_left
                 focus (intro wq hSq; (try dsimp only at hSq); go_simp; (try (with_reducible rfl)); done))
              | (refine wpAnyH_take (i := 7) (v := undef) rfl (by kernel_rfl) (by kernel_rfl) (by kernel_rfl) (fun _ _ _ h => h) (Or.inr ⟨by rfl, rfl⟩) (by assumption) ?_)
              | fail "take 7")
            try simp only [Act.put, List.setIfInBounds_toArray, List.set_cons_zero, List.set_cons_succ, List.getElem_toArray, List.getElem_cons_zero, List.getElem_cons_succ]
            (first
              | (refine wpAnyH_take (i := 8) (v := ?_) rfl (by kernel_rfl) (by kernel_rfl) (by kernel_rfl) (fun _ _ _ h => h) (Or.inl ⟨by rfl, ?_⟩) (by assumption) ?_
                 rotate_left
                 focus (intro wq hSq; (try dsimp only at hSq); go_simp; (try (with_reducible rfl)); done))
              | (refine wpAnyH_take (i := 8) (v := undef) rfl (by kernel_rfl) (by kernel_rfl) (by kernel_rfl) (fun _ _ _ h => h) (Or.inr ⟨by rfl, rfl⟩) (by assumption) ?_)
              | fail "take 8")
            try simp only [Act.put, List.setIfInBounds_toArray, List.set_cons_zero, List.set_cons_succ, List.getElem_toArray, List.getElem_cons_zero, List.getElem_cons_succ]
            (first
              | (refine wpAnyH_take (i := 9) (v := ?_) rfl (by kernel_rfl) (by kernel_rfl) (by kernel_rfl) (fun _ _ _ h => h) (Or.inl ⟨by rfl, ?_⟩) (by assumption) ?_
                 rotate_left
                 focus (intro wq hSq; (try dsimp only at hSq); go_simp; (try (with_reducible rfl)); done))
              | (refine wpAnyH_take (i := 9) (v := undef) rfl (by kernel_rfl) (by kernel_rfl) (by kernel_rfl) (fun _ _ _ h => h) (Or.inr ⟨by rfl, rfl⟩) (by assumption) ?_)
              | fail "take 9")
            try simp only [Act.put, List.setIfInBounds_toArray, List.set_cons_zero, List.set_cons_succ, List.getElem_toArray, List.getElem_cons_zero, List.getElem_cons_succ]
            (first
              | (refine wpAnyH_take (i := 10) (v := ?_) rfl (by kernel_rfl) (by kernel_rfl) (by kernel_rfl) (fun _ _ _ h => h) (Or.inl ⟨by rfl, ?_⟩) (by assumption) ?_
                 rotate_left
                 focus (intro wq hSq; (try dsimp only at hSq); go_simp; (try (with_reducible rfl)); done))
              | (refine wpAnyH_take (i := 10) (v := undef) rfl (by kernel_rfl) (by kernel_rfl) (by kernel_rfl) (fun _ _ _ h => h) (Or.inr ⟨by rfl, rfl⟩) (by assumption) ?_)
              | fail "take 10")
            try simp only [Act.put, List.setIfInBounds_toArray, List.set_cons_zero, List.set_cons_succ, List.getElem_toArray, List.getElem_cons_zero, List.getElem_cons_succ]
            (first
              | (refine wpAnyH_take (i := 11) (v := ?_) rfl (by kernel_rfl) (by kernel_rfl) (by kernel_rfl) (fun _ _ _ h => h) (Or.inl ⟨by rfl, ?_⟩) (by assumption) ?_
                 rotate_left
                 focus (intro wq hSq; (try dsimp only at hSq); go_simp; (try (with_reducible rfl)); done))
              | (refine wpAnyH_take (i := 11) (v := undef) rfl (by kernel_rfl) (by kernel_rfl) (by kernel_rfl) (fun _ _ _ h => h) (Or.inr ⟨by rfl, rfl⟩) (by assumption) ?_)
              | fail "take 11")
            try simp only [Act.put, List.setIfInBounds_toArray, List.set_cons_zero, List.set_cons_succ, List.getElem_toArray, List.getElem_cons_zero, List.getElem_cons_succ]
            (first
              | (refine wpAnyH_take (i := 12) (v := ?_) rfl (by kernel_rfl) (by kernel_rfl) (by kernel_rfl) (fun _ _ _ h => h) (Or.inl ⟨by rfl, ?_⟩) (by assumption) ?_
                 rotate_left
                 focus (intro wq hSq; (try dsimp only at hSq); go_simp; (try (with_reducible rfl)); done))
              | (refine wpAnyH_take (i := 12) (v := undef) rfl (by kernel_rfl) (by kernel_rfl) (by kernel_rfl) (fun _ _ _ h => h) (Or.inr ⟨by rfl, rfl⟩) (by assumption) ?_)
              | fail "take 12")
            try simp only [Act.put, List.setIfInBounds_toArray, List.set_cons_zero, List.set_cons_succ, List.getElem_toArray, List.getElem_cons_zero, List.getElem_cons_succ]
            (first
              | (refine wpAnyH_take (i := 13) (v := ?_) rfl (by kernel_rfl) (by kernel_rfl) (by kernel_rfl) (fun _ _ _ h => h) (Or.inl ⟨by rfl, ?_⟩) (by assumption) ?_
                 rotate_left
                 focus (intro wq hSq; (try dsimp only at hSq); go_simp; (try (with_reducible rfl)); done))
              | (refine wpAnyH_take (i := 13) (v := undef) rfl (by kernel_rfl) (by kernel_rfl) (by kernel_rfl) (fun _ _ _ h => h) (Or.inr ⟨by rfl, rfl⟩) (by assumption) ?_)
              | fail "take 13")
            try simp only [Act.put, List.setIfInBounds_toArray, List.set_cons_zero, List.set_cons_succ, List.getElem_toArray, List.getElem_cons_zero, List.getElem_cons_succ]
            (first
              | (refine wpAnyH_take (i := 14) (v := ?_) rfl (by kernel_rfl) (by kernel_rfl) (by kernel_rfl) (fun _ _ _ h => h) (Or.inl ⟨by rfl, ?_⟩) (by assumption) ?_
                 rotate_left
                 focus (intro wq hSq; (try dsimp only at hSq); go_simp; (try (with_reducible rfl)); done))
              | (refine wpAnyH_take (i := 14) (v := undef) rfl (by kernel_rfl) (by kernel_rfl) (by kernel_rfl) (fun _ _ _ h => h) (Or.inr ⟨by rfl, rfl⟩) (by assumption) ?_)
              | fail "take 14")
            try simp only [Act.put, List.setIfInBounds_toArray, List.set_cons_zero, List.set_cons_succ, List.getElem_toArray, List.getElem_cons_zero, List.getElem_cons_succ]
            (first
              | (refine wpAnyH_take (i := 15) (v := ?_) rfl (by kernel_rfl) (by kernel_rfl) (by kernel_rfl) (fun _ _ _ h => h) (Or.inl ⟨by rfl, ?_⟩) (by assumption) ?_
                 rotate_left
                 focus (intro wq hSq; (try dsimp only at hSq); go_simp; (try (with_reducible rfl)); done))
              | (refine wpAnyH_take (i := 15) (v := undef) rfl (by kernel_rfl) (by kernel_rfl) (by kernel_rfl) (fun _ _ _ h => h) (Or.inr ⟨by rfl, rfl⟩) (by assumption) ?_)
              | fail "take 15")
            try simp only [Act.put, List.setIfInBounds_toArray, List.set_cons_zero, List.set_cons_succ, List.getElem_toArray, List.getElem_cons_zero, List.getElem_cons_succ]
            (first
              | (refine wpAnyH_take (i := 16) (v := ?_) rfl (by kernel_rfl) (by kernel_rfl) (by kernel_rfl) (fun _ _ _ h => h) (Or.inl ⟨by rfl, ?_⟩) (by assumption) ?_
                 rotate_left
                 focus (intro wq hSq; (try dsimp only at hSq); go_simp; (try (with_reducible rfl)); done))
              | (refine wpAnyH_take (i := 16) (v := undef) rfl (by kernel_rfl) (by kernel_rfl) (by kernel_rfl) (fun _ _ _ h => h) (Or.inr ⟨by rfl, rfl⟩) (by assumption) ?_)
              | fail "take 16")
            try simp only [Act.put, List.setIfInBounds_toArray, List.set_cons_zero, List.set_cons_succ, List.getElem_toArray, List.getElem_cons_zero, List.getElem_cons_succ]
            (first
              | (refine wpAnyH_take (i := 17) (v := ?_) rfl (by kernel_rfl) (by kernel_rfl) (by kernel_rfl) (fun _ _ _ h => h) (Or.inl ⟨by rfl, ?_⟩) (by assumption) ?_
                 rotate_left
                 focus (intro wq hSq; (try dsimp only at hSq); go_simp; (try (with_reducible rfl)); done))
              | (refine wpAnyH_take (i := 17) (v := undef) rfl (by kernel_rfl) (by kernel_rfl) (by kernel_rfl) (fun _ _ _ h => h) (Or.inr ⟨by rfl, rfl⟩) (by assumption) ?_)
              | fail "take 17")
            try simp only [Act.put, List.setIfInBounds_toArray, List.set_cons_zero, List.set_cons_succ, List.getElem_toArray, List.getElem_cons_zero, List.getElem_cons_succ]
            refine wpAnyH_done (by kernel_rfl) ?_ _
            have hb8 := (Below.refl w0.heap.size w0).drew.trans hb7
            clear hHeld
            go_wp2_with fail
            go_ret
            exact ⟨ret_eq (bool_eq HR0.out.symm), hbw0.trans (hb8.mono hbw0.size)⟩
          · have HN : Hid (∀ r, r < k + 1 → 0 < r → (sAt xs (r - 1)).f < (sAt xs r).f) := Lib.hid fun r a b => by
              rcases Nat.lt_or_ge r k with h1 | h1
              · exact H2.out r h1 b
              · obtain rfl : r = k := by omega
                rw [Hsk.out, Hps.out]; omega
            have hge' : ¬ s.f ≤ p.f := hge
            have Hok := Lib.hid hok; clear hok
            go_wp2
            try rw [hw0]
            try rw [hg]
            clear hw0 hg q1 c1 c2 c3
            have e1 : ∀ {w' : World}, Below w0.heap.size w0 w' → (Below w0.heap.size w0 w' ∧ (∀ x, w'.cell? ⟨b, x, none⟩ = w0.cell? ⟨b, x, none⟩) ∧ (∀ x, w'.cell? ⟨g, x, none⟩ = w0.cell? ⟨g, x, none⟩)) := fun hbb => ⟨hbb, keepC hbb _ hb0, keepC hbb _ hg0⟩
            refine wp_region_held_drew (S := fun w' => Below w0.heap.size w0 w' ∧ (∀ x, w'.cell? ⟨b, x, none⟩ = w0.cell? ⟨b, x, none⟩) ∧ (∀ x, w'.cell? ⟨g, x, none⟩ = w0.cell? ⟨g, x, none⟩)) (by kernel_rfl) (e1 (Below.refl _ _).drew) (fun hHeld => ?_)
            (first
              | (refine wpAnyH_take (i := 0) (v := ?_) rfl (by kernel_rfl) (by kernel_rfl) (by kernel_rfl) (fun _ _ _ h => h) (Or.inl ⟨by rfl, ?_⟩) (by assumption) ?_
                 rotate_left
                 focus (intro wq hSq; (try dsimp only at hSq); go_simp; (try (with_reducible rfl)); done))
              | (refine wpAnyH_take (i := 0) (v := undef) rfl (by kernel_rfl) (by kernel_rfl) (by kernel_rfl) (fun _ _ _ h => h) (Or.inr ⟨by rfl, rfl⟩) (by assumption) ?_)
              | fail "take 0")
            try simp only [Act.put, List.setIfInBounds_toArray, List.set_cons_zero, List.set_cons_succ, List.getElem_toArray, List.getElem_cons_zero]
            refine wpAnyH_ready (rs := [1]) (by kernel_rfl) (by simp) ?_
            refine AllReadyH.cons (o := _) rfl (fun K hK => ?_) AllReadyH.nil
            go_simp
            refine (HV.out _).mono ?_; rintro e w7 ⟨rfl, hb7⟩
            refine hK.out _ _ ?_ (fun hHeld => ?_)
            · exact e1 ((Below.refl _ _).drew.trans hb7)
            clear hK K
            try simp only [Act.put, List.setIfInBounds_toArray, List.set_cons_zero, List.set_cons_succ, List.getElem_toArray, List.getElem_cons_zero, List.getElem_cons_succ]
            (first
              | (refine wpAnyH_take (i := 2) (v := ?_) rfl (by kernel_rfl) (by kernel_rfl) (by kernel_rfl) (fun _ _ _ h => h) (Or.inl ⟨by rfl, ?_⟩) (by assumption) ?_
                 rotate_left
                 focus (intro wq hSq; (try dsimp only at hSq); go_simp; (try (with_reducible rfl)); done))
              | (refine wpAnyH_take (i := 2) (v := undef) rfl (by kernel_rfl) (by kernel_rfl) (by kernel_rfl) (fun _ _ _ h => h) (Or.inr ⟨by rfl, rfl⟩) (by assumption) ?_)
              | fail "take 2")
            try simp only [Act.put, List.setIfInBounds_toArray, List.set_cons_zero, List.set_cons_succ, List.getElem_toArray, List.getElem_cons_zero, List.getElem_cons_succ]
            (first
              | (refine wpAnyH_take (i := 3) (v := ?_) rfl (by kernel_rfl) (by kernel_rfl) (by kernel_rfl) (fun _ _ _ h => h) (Or.inl ⟨by rfl, ?_⟩) (by assumption) ?_
                 rotate_left
                 focus (intro wq hSq; (try dsimp only at hSq); go_simp; (try (with_reducible rfl)); done))
              | (refine wpAnyH_take (i := 3) (v := undef) rfl (by kernel_rfl) (by kernel_rfl) (by kernel_rfl) (fun _ _ _ h => h) (Or.inr ⟨by rfl, rfl⟩) (by assumption) ?_)
              | fail "take 3")
            try simp only [Act.put, List.setIfInBounds_toArray, List.set_cons_zero, List.set_cons_succ, List.getElem_toArray, List.getElem_cons_zero, List.getElem_cons_succ]
            (first
              | (refine wpAnyH_take (i := 4) (v := ?_) rfl (by kernel_rfl) (by kernel_rfl) (by kernel_rfl) (fun _ _ _ h => h) (Or.inl ⟨by rfl, ?_⟩) (by assumption) ?_
                 rotate_left
                 focus (intro wq hSq; (try dsimp only at hSq); go_simp; (try (with_reducible rfl)); done))
              | (refine wpAnyH_take (i := 4) (v := undef) rfl (by kernel_rfl) (by kernel_rfl) (by kernel_rfl) (fun _ _ _ h => h) (Or.inr ⟨by rfl, rfl⟩) (by assumption) ?_)
              | fail "take 4")
            try simp only [Act.put, List.setIfInBounds_toArray, List.set_cons_zero, List.set_cons_succ, List.getElem_toArray, List.getElem_cons_zero, List.getElem_cons_succ]
            (first
              | (refine wpAnyH_take (i := 5) (v := ?_) rfl (by kernel_rfl) (by kernel_rfl) (by kernel_rfl) (fun _ _ _ h => h) (Or.inl ⟨by rfl, ?_⟩) (by assumption) ?_
                 rotate_left
                 focus (intro wq hSq; (try dsimp only at hSq); go_simp; (try (with_reducible rfl)); done))
              | (refine wpAnyH_take (i := 5) (v := undef) rfl (by kernel_rfl) (by kernel_rfl) (by kernel_rfl) (fun _ _ _ h => h) (Or.inr ⟨by rfl, rfl⟩) (by assumption) ?_)
              | fail "take 5")
            try simp only [Act.put, List.setIfInBounds_toArray, List.set_cons_zero, List.set_cons_succ, List.getElem_toArray, List.getElem_cons_zero, List.getElem_cons_succ]
            (first
              | (refine wpAnyH_take (i := 6) (v := ?_) rfl (by kernel_rfl) (by kernel_rfl) (by kernel_rfl) (fun _ _ _ h => h) (Or.inl ⟨by rfl, ?_⟩) (by assumption) ?_
                 rotate_left
                 focus (intro wq hSq; (try dsimp only at hSq); go_simp; (try (with_reducible rfl)); done))
              | (refine wpAnyH_take (i := 6) (v := undef) rfl (by kernel_rfl) (by kernel_rfl) (by kernel_rfl) (fun _ _ _ h => h) (Or.inr ⟨by rfl, rfl⟩) (by assumption) ?_)
              | fail "take 6")
            try simp only [Act.put, List.setIfInBounds_toArray, List.set_cons_zero, List.set_cons_succ, List.getElem_toArray, List.getElem_cons_zero, List.getElem_cons_succ]
            (first
              | (refine wpAnyH_take (i := 7) (v := ?_) rfl (by kernel_rfl) (by kernel_rfl) (by kernel_rfl) (fun _ _ _ h => h) (Or.inl ⟨by rfl, ?_⟩) (by assumption) ?_
                 rotate_left
                 focus (intro wq hSq; (try dsimp only at hSq); go_simp; (try (with_reducible rfl)); done))
              | (refine wpAnyH_take (i := 7) (v := undef) rfl (by kernel_rfl) (by kernel_rfl) (by kernel_rfl) (fun _ _ _ h => h) (Or.inr ⟨by rfl, rfl⟩) (by assumption) ?_)
              | fail "take 7")
            try simp only [Act.put, List.setIfInBounds_toArray, List.set_cons_zero, List.set_cons_succ, List.getElem_toArray, List.getElem_cons_zero, List.getElem_cons_succ]
            (first
              | (refine wpAnyH_take (i := 8) (v := ?_) rfl (by kernel_rfl) (by kernel_rfl) (by kernel_rfl) (fun _ _ _ h => h) (Or.inl ⟨by rfl, ?_⟩) (by assumption) ?_
                 rotate_left
                 focus (intro wq hSq; (try dsimp only at hSq); go_simp; (try (with_reducible rfl)); done))
              | (refine wpAnyH_take (i := 8) (v := undef) rfl (by kernel_rfl) (by kernel_rfl) (by kernel_rfl) (fun _ _ _ h => h) (Or.inr ⟨by rfl, rfl⟩) (by assumption) ?_)
              | fail "take 8")
            try simp only [Act.put, List.setIfInBounds_toArray, List.set_cons_zero, List.set_cons_succ, List.getElem_toArray, List.getElem_cons_zero, List.getElem_cons_succ]
            (first
              | (refine wpAnyH_take (i := 9) (v := ?_) rfl (by kernel_rfl) (by kernel_rfl) (by kernel_rfl) (fun _ _ _ h => h) (Or.inl ⟨by rfl, ?_⟩) (by assumption) ?_
                 rotate_left
                 focus (intro wq hSq; (try dsimp only at hSq); go_simp; (try (with_reducible rfl)); done))
              | (refine wpAnyH_take (i := 9) (v := undef) rfl (by kernel_rfl) (by kernel_rfl) (by kernel_rfl) (fun _ _ _ h => h) (Or.inr ⟨by rfl, rfl⟩) (by assumption) ?_)
              | fail "take 9")
            try simp only [Act.put, List.setIfInBounds_toArray, List.set_cons_zero, List.set_cons_succ, List.getElem_toArray, List.getElem_cons_zero, List.getElem_cons_succ]
            (first
              | (refine wpAnyH_take (i := 10) (v := ?_) rfl (by kernel_rfl) (by kernel_rfl) (by kernel_rfl) (fun _ _ _ h => h) (Or.inl ⟨by rfl, ?_⟩) (by assumption) ?_
                 rotate_left
                 focus (intro wq hSq; (try dsimp only at hSq); go_simp; (try (with_reducible rfl)); done))
              | (refine wpAnyH_take (i := 10) (v := undef) rfl (by kernel_rfl) (by kernel_rfl) (by kernel_rfl) (fun _ _ _ h => h) (Or.inr ⟨by rfl, rfl⟩) (by assumption) ?_)
              | fail "take 10")
            try simp only [Act.put, List.setIfInBounds_toArray, List.set_cons_zero, List.set_cons_succ, List.getElem_toArray, List.getElem_cons_zero, List.getElem_cons_succ]
            (first
              | (refine wpAnyH_take (i := 11) (v := ?_) rfl (by kernel_rfl) (by kernel_rfl) (by kernel_rfl) (fun _ _ _ h => h) (Or.inl ⟨by rfl, ?_⟩) (by assumption) ?_
                 rotate_left
                 focus (intro wq hSq; (try dsimp only at hSq); go_simp; (try (with_reducible rfl)); done))
              | (refine wpAnyH_take (i := 11) (v := undef) rfl (by kernel_rfl) (by kernel_rfl) (by kernel_rfl) (fun _ _ _ h => h) (Or.inr ⟨by rfl, rfl⟩) (by assumption) ?_)
              | fail "take 11")
            try simp only [Act.put, List.setIfInBounds_toArray, List.set_cons_zero, List.set_cons_succ, List.getElem_toArray, List.getElem_cons_zero, List.getElem_cons_succ]
            (first
              | (refine wpAnyH_take (i := 12) (v := ?_) rfl (by kernel_rfl) (by kernel_rfl) (by kernel_rfl) (fun _ _ _ h => h) (Or.inl ⟨by rfl, ?_⟩) (by assumption) ?_
                 rotate_left
                 focus (intro wq hSq; (try dsimp only at hSq); go_simp; (try (with_reducible rfl)); done))
              | (refine wpAnyH_take (i := 12) (v := undef) rfl (by kernel_rfl) (by kernel_rfl) (by kernel_rfl) (fun _ _ _ h => h) (Or.inr ⟨by rfl, rfl⟩) (by assumption) ?_)
              | fail "take 12")
            try simp only [Act.put, List.setIfInBounds_toArray, List.set_cons_zero, List.set_cons_succ, List.getElem_toArray, List.getElem_cons_zero, List.getElem_cons_succ]
            (first
              | (refine wpAnyH_take (i := 13) (v := ?_) rfl (by kernel_rfl) (by kernel_rfl) (by kernel_rfl) (fun _ _ _ h => h) (Or.inl ⟨by rfl, ?_⟩) (by assumption) ?_
                 rotate_left
                 focus (intro wq hSq; (try dsimp only at hSq); go_simp; (try (with_reducible rfl)); done))
              | (refine wpAnyH_take (i := 13) (v := undef) rfl (by kernel_rfl) (by kernel_rfl) (by kernel_rfl) (fun _ _ _ h => h) (Or.inr ⟨by rfl, rfl⟩) (by assumption) ?_)
              | fail "take 13")
            try simp only [Act.put, List.setIfInBounds_toArray, List.set_cons_zero, List.set_cons_succ, List.getElem_toArray, List.getElem_cons_zero, List.getElem_cons_succ]
            (first
              | (refine wpAnyH_take (i := 14) (v := ?_) rfl (by kernel_rfl) (by kernel_rfl) (by kernel_rfl) (fun _ _ _ h => h) (Or.inl ⟨by rfl, ?_⟩) (by assumption) ?_
                 rotate_left
                 focus (intro wq hSq; (try dsimp only at hSq); go_simp; (try (with_reducible rfl)); done))
              | (refine wpAnyH_take (i := 14) (v := undef) rfl (by kernel_rfl) (by kernel_rfl) (by kernel_rfl) (fun _ _ _ h => h) (Or.inr ⟨by rfl, rfl⟩) (by assumption) ?_)
              | fail "take 14")
            try simp only [Act.put, List.setIfInBounds_toArray, List.set_cons_zero, List.set_cons_succ, List.getElem_toArray, List.getElem_cons_zero, List.getElem_cons_succ]
            (first
              | (refine wpAnyH_take (i := 15) (v := ?_) rfl (by kernel_rfl) (by kernel_rfl) (by kernel_rfl) (fun _ _ _ h => h) (Or.inl ⟨by rfl, ?_⟩) (by assumption) ?_
                 rotate_left
                 focus (intro wq hSq; (try dsimp only at hSq); go_simp; (try (with_reducible rfl)); done))
              | (refine wpAnyH_take (i := 15) (v := undef) rfl (by kernel_rfl) (by kernel_rfl) (by kernel_rfl) (fun _ _ _ h => h) (Or.inr ⟨by rfl, rfl⟩) (by assumption) ?_)
              | fail "take 15")
            try simp only [Act.put, List.setIfInBounds_toArray, List.set_cons_zero, List.set_cons_succ, List.getElem_toArray, List.getElem_cons_zero, List.getElem_cons_succ]
            (first
              | (refine wpAnyH_take (i := 16) (v := ?_) rfl (by kernel_rfl) (by kernel_rfl) (by kernel_rfl) (fun _ _ _ h => h) (Or.inl ⟨by rfl, ?_⟩) (by assumption) ?_
                 rotate_left
                 focus (intro wq hSq; (try dsimp only at hSq); go_simp; (try (with_reducible rfl)); done))
              | (refine wpAnyH_take (i := 16) (v := undef) rfl (by kernel_rfl) (by kernel_rfl) (by kernel_rfl) (fun _ _ _ h => h) (Or.inr ⟨by rfl, rfl⟩) (by assumption) ?_)
              | fail "take 16")
            try simp only [Act.put, List.setIfInBounds_toArray, List.set_cons_zero, List.set_cons_succ, List.getElem_toArray, List.getElem_cons_zero, List.getElem_cons_succ]
            (first
              | (refine wpAnyH_take (i := 17) (v := ?_) rfl (by kernel_rfl) (by kernel_rfl) (by kernel_rfl) (fun _ _ _ h => h) (Or.inl ⟨by rfl, ?_⟩) (by assumption) ?_
                 rotate_left
                 focus (intro wq hSq; (try dsimp only at hSq); go_simp; (try (with_reducible rfl)); done))
              | (refine wpAnyH_take (i := 17) (v := undef) rfl (by kernel_rfl) (by kernel_rfl) (by kernel_rfl) (fun _ _ _ h => h) (Or.inr ⟨by rfl, rfl⟩) (by assumption) ?_)
              | fail "take 17")
            try simp only [Act.put, List.setIfInBounds_toArray, List.set_cons_zero, List.set_cons_succ, List.getElem_toArray, List.getElem_cons_zero, List.getElem_cons_succ]
            refine wpAnyH_done (by kernel_rfl) ?_ _
            have hb8 := (Below.refl w0.heap.size w0).drew.trans hb7
            clear hHeld
            have hbw7 : Below w.heap.size w w7 := hbw0.trans (hb8.mono hbw0.size)
            go_wp2_with fail
            go_loopw [35] (fun i wr2 => ∃ j : Nat, j ≤ n ∧ i = .int .i64 j ∧ Hid (∀ q, q < j → k ≠ q → secOk (sAt xs q) = true → arcI s.f s.t ≤ distI s.f (sAt xs q).f) ∧ Below w0.heap.size w0 wr2) (fun i _ => n - (intOf i).toNat)
            case atStart => exact ⟨0, Nat.zero_le _, rfl, Lib.hid (fun q hq => absurd hq (by omega)), hb8⟩
            case round =>
              clear hb8 hb7 hbw7 k1 k2 k3
              obtain ⟨j, hj, rfl, HJ, hb9⟩ := hrel
              have hbw9 : Below w.heap.size w wr := hbw0.trans (hb9.mono hbw0.size)
              have m1 := (keepC hb9 g hg0 _).trans g1
              have m2 := (keepC hb9 g hg0 _).trans g2
              have m3 := (keepC hb9 g hg0 _).trans g3
              by_cases hlj : j < n
              · obtain ⟨b2, off2, o, e2, _, ho, d1, d2, d3⟩ := h.sec j hlj
                injection e2 with e2; injection e2 with e3 e4 _
                subst e3 e4
                have q9 := keepC hbw9 b hb
                have q0 := keepC hbw0 b hb
                have i1 : (0 : Int) ≤ (j : Int) := by omega
                have i9 : (j : Int) < (n : Int) := by omega
                have hos := sAt_eq ho
                have hx : Below w0.heap.size w0 (wr.alloc (.cells #[.int .i64 o.f, .int .i64 o.t, .string o.c] 109)) := by (repeat (first | (with_reducible assumption) | (with_reducible exact Below.refl _ _) | exact Nat.le_refl _ | exact Below.size (by with_reducible assumption) | (with_reducible refine Below.drew ?_) | (with_reducible refine below_drewN ?_ _) | (with_reducible refine Below.alloc ?_ ?_ _) | (with_reducible refine Below.setCell ?_ ?_ _) | (with_reducible refine le_alloc ?_ _) | (with_reducible refine le_set ?_ _ _) | (with_reducible refine le_drew ?_) | (with_reducible refine le_drewN ?_ _) | omega | (dsimp only; omega)))
                have Hos := Lib.hid hos; clear hos
                have Ho := Lib.hid ho; clear ho
                by_cases hjk : j = k
                · have e0 : ((j : Int) != (k : Int)) = false := by rw [hjk]; simp
                  have Hjk := Lib.hid hjk; clear hjk
                  go_wp2_with fail
                  go_roundw
                  case rel =>
                    refine ⟨j + 1, by omega, by go_num, Lib.hid (fun q hq hne hoq => ?_), hx⟩
                    rcases Nat.lt_or_ge q j with h1 | h1
                    · exact HJ.out q h1 hne hoq
                    · have := Hjk.out; omega
                  case measure => simp [intOf]; omega
                · have e0 : ((j : Int) != (k : Int)) = true := by simp; omega
                  go_wp2_with (go_at_call 120; refine (has_c s.f s.t s.c o.f _ hf ht).mono ?_; rintro e w10 ⟨r, rfl, hr, hb10⟩; have Hr := Lib.hid hr; clear hr)
                  · go_ret
                    refine ⟨ret_eq (bool_eq ?_), hbw0.trans ((hx.trans (hb10.mono hx.size)).mono hbw0.size)⟩
                    rw [← HR.out]
                    refine (secsB_no fun hP => ?_).symm
                    have h3 := hP.2.2 k (by rw [Hl.out]; exact hlt) j (by rw [Hl.out]; exact hlj) (by omega)
                    have h4 := hP.1 j (by rw [Hl.out]; exact hlj)
                    rw [Hos.out] at h4
                    rw [Hos.out, Hsk.out] at h3
                    have h5 := Hr.out (secOk_bd h4).1
                    have h6 : r = true := by assumption
                    rw [h6] at h5
                    have h7 := of_decide_eq_true h5.symm
                    omega
                  · go_roundw
                    case rel =>
                      refine ⟨j + 1, by omega, by go_num, Lib.hid (fun q hq hne hoq => ?_), hx.trans (hb10.mono hx.size)⟩
                      rcases Nat.lt_or_ge q j with h1 | h1
                      · exact HJ.out q h1 hne hoq
                      · obtain rfl : q = j := by omega
                        rw [Hos.out] at hoq ⊢
                        have h5 := Hr.out (secOk_bd hoq).1
                        have h6 : r = false := by assumption
                        rw [h6] at h5
                        have h7 := of_decide_eq_false h5.symm
                        omega
                    case measure => simp [intOf]; omega
              · have harc := arc_bd s.f s.t
                go_wp2_with (go_at_call 121; refine (arc_c s.f s.t s.c _ hf ht).mono ?_; rintro e w11 ⟨rfl, hb11⟩)
                go_roundw
                case rel =>
                  refine ⟨k + 1, by omega, by go_num, by rw [Hnx.out], Lib.hid (fun r hr => ?_), HN, Lib.hid (fun r hr q hq hne hoq => ?_), hbw9.trans (hb11.mono hbw9.size)⟩
                  · rcases Nat.lt_or_ge r k with h1 | h1
                    · exact H1.out r h1
                    · obtain rfl : r = k := by omega
                      rw [Hsk.out]; exact Hok.out
                  · rcases Nat.lt_or_ge r k with h1 | h1
                    · exact H3.out r h1 q hq hne hoq
                    · obtain rfl : r = k := by omega
                      rw [Hsk.out]
                      exact HJ.out q (by omega) hne hoq
                case measure => simp [intOf]; omega
    · have hP : secsP xs := ⟨fun i hi => H1.out i (by rw [Hl.out] at hi; omega), fun i hi => H2.out i (by rw [Hl.out] at hi; omega), fun i hi q hq hne => by
        rw [Hl.out] at hi hq
        exact H3.out i (by omega) q hq hne (H1.out q (by omega))⟩
      obtain rfl : k = n := by omega
      have h360 := arcSum_all hP
      rw [Hl.out] at h360
      have hRR : R = decide ((k : Int) ≤ 12) := by rw [← HR.out, secsB_yes hP, Hl.out, Bool.eq_iff_iff]; simp; omega
      clear hP
      by_cases h12 : (k : Int) ≤ 12
      · have e12 : decide ((k : Int) ≤ 12) = true := by simpa using h12
        rw [e12] at hRR
        have HRR := Lib.hid hRR; clear hRR
        go_wp2_with (go_at_call 97; refine (few_c _ _ _).mono ?_; rintro e w1 ⟨rfl, rfl⟩)
        go_ret
        exact ⟨ret_eq (bool_eq (by rw [HRR.out])), hbw⟩
      · have e12 : decide ((k : Int) ≤ 12) = false := by simpa using h12
        rw [e12] at hRR
        have HRR := Lib.hid hRR; clear hRR
        go_wp2_with (go_at_call 97; refine (few_c _ _ _).mono ?_; rintro e w1 ⟨rfl, rfl⟩)
        go_ret
        exact ⟨ret_eq (bool_eq (by rw [HRR.out])), hbw⟩
end Go.Proofs.YtpgcgmbjlecnpaaGreatDoor
