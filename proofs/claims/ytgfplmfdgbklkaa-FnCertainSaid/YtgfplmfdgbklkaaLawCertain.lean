/- The walk of the law FnCertain. -/
import Derived.Test.YtgfplmfdgbklkaaLtDr
import Derived.Test.YtgfplmfdgbklkaaSrcG
import Derived.Test.YtgfplmfdgbklkaaLtG
import Derived.Test.YtgfplmfdgbklkaaLtNeedW
import Derived.Test.YtgfplmfdgbklkaaChObs2
namespace Go.Proofs.Ytgfplmfdgbklkaa
open Go.RowKit
theorem obs_see {x : Ch} {m : Nat} (hv : validB x = true) (h1 : 1 ≤ m) (h24 : m ≤ 24) (hk : x.k = 1 → m = 1) : obsR x (oneC x.cs) (firstLit x) m = (seeL (phasesL x (oneC x.cs)) (firstLit x) m, 0) := by
  have h2 : inB (m : Int) 1 24 = true := inB_iff.2 (by omega)
  have h3 := oneC_col hv
  have h4 : hasC x.cs (oneC x.cs) = true := hasC_ext x.cs (i := 0) (by have := colors_one hv; omega)
  have h5 : (!startB (phasesL x (oneC x.cs)) (firstLit x) || (x.k == 1 && decide (1 < (m : Int)))) = false := by
    rw [start_first hv]
    by_cases hk1 : x.k = 1
    · rw [hk hk1]; simp
    · have : (x.k == 1) = false := by simpa using hk1
      rw [this]; rfl
  rw [obsR, if_neg (by rw [hv]; simp), if_neg (by rw [h2]; simp), if_neg (by rw [h3, h4]; simp), if_neg (by rw [h5]; simp), Int.toNat_natCast]
theorem ask_zero {zs : List ChG} {o : List Ph} {tol : Int} (h1 : lightsB zs = true) (h2 : obsB o = true) (h3 : inB tol 0 100 = true) : askI zs o tol = 0 := by rw [askI, h1, h2, h3]; rfl
theorem lights_of {zs : List ChG} (h : ∀ z ∈ zs, validB z.x = true) (hl : zs.length ≤ 64) : lightsB zs = true := by rw [lightsB, all_true h, decide_eq_true hl]; rfl
theorem valid_sizes {zs : List ChG} (h : ∀ z ∈ zs, validB z.x = true) : ∀ z ∈ zs, z.n ≤ 1048576 ∧ z.x.l.size ≤ 1048576 ∧ z.x.cs.size ≤ 1048576 := fun z hz => by
  have := shape_sizes (valid_shape (h z hz))
  exact ⟨by show z.x.gs.length ≤ 1048576; omega, by omega, by omega⟩
theorem see_size {x : Ch} {co : ByteArray} {start : Int} (hv : validB x = true) (hco : colB co = true) (hs : startB (phasesL x co) start = true) {n : Nat} (hn : x.k = 1 → n = 1) : ∀ p ∈ seeL (phasesL x co) start n, p.c.size ≤ maxLen := by
  intro p hp
  obtain ⟨i, hi⟩ := List.mem_iff_getElem?.1 hp
  rw [see_col hv (colB_E2 hco) hs hn hi]
  cases decide (i % 2 = 1)
  · show co.size ≤ maxLen
    rw [colB_size hco]; decide
  · show (⟨#[]⟩ : ByteArray).size ≤ maxLen
    exact Nat.zero_le _
set_option maxRecDepth 100000 in
set_option maxHeartbeats 4000000 in
theorem lawCertain_c (A : Option Addr) (n c : Nat) (bs : List Int) (A' : Option Addr) (n' c' : Nat) (bs' : List Int) (w : World) (hx : Sl w w.heap.size 1 A n (bs.flatMap u8C)) (hb : ∀ x ∈ bs, 0 ≤ x ∧ x ≤ 255) (hn : n ≤ maxLen)
    (hx' : Sl w w.heap.size 1 A' n' (bs'.flatMap u8C)) (hb' : ∀ x ∈ bs', 0 ≤ x ∧ x ≤ 255) :
    Calls Try.prog 11 #[.slice A n c, .slice A' n' c'] w fun e w' => e = .returned (.bool true) ∧ Below w.heap.size w w' := by
  have Hb := Lib.hid hb; clear hb
  have Hb' := Lib.hid hb'; clear hb'
  cases hbig : (decide (1048576 < n) || decide (1048576 < n'))
  · simp only [Bool.or_eq_false_iff, decide_eq_false_iff_not] at hbig
    obtain ⟨hn1, hn2⟩ := hbig
    have hlong := r8Long_c A A' n c n' c' w
    rw [decide_eq_false hn1, decide_eq_false hn2] at hlong
    have Hlong := Lib.hid hlong; clear hlong
    go_enter Try.func11, Try.ntmps11
    go_wp2_with fail
    refine Hlong.out.mono ?_
    rintro e w1 ⟨rfl, rfl⟩
    go_wp2_with fail
    refine (r8Lights_c A n c bs _ hx Hb.out hn).mono ?_
    rintro e w2 ⟨v, zs, rfl, hl1, hl5, hown, hval, hb2⟩
    obtain ⟨Az, cz, rfl⟩ := own_slice hown.own
    have hS := hown.sl (valid_sizes hval)
    have hlt := lights_of hval (show zs.length ≤ 64 by omega)
    obtain ⟨N, hN⟩ : ∃ N, zs.length = N := ⟨_, rfl⟩
    rw [hN] at hl1 hl5 hS ⊢
    have HN := Lib.hid hN; clear hN
    have Hval := Lib.hid hval; clear hval
    clear hown
    have hx2 := hx'.below hb2
    go_wp2_with fail
    refine (r8At_c A' n' c' _ bs' 0 (N : Int) _ hx2 Hb'.out (by omega) (by omega)).mono ?_
    rintro e w3 ⟨k0, rfl, k0a, k0b, _, rfl⟩
    obtain ⟨k, rfl⟩ := Int.eq_ofNat_of_zero_le k0a
    have hk : k < N := by omega
    go_wp2_with fail
    refine (r8At_c A' n' c' _ bs' 1 5 _ hx2 Hb'.out (by omega) (by omega)).mono ?_
    rintro e w3 ⟨tol, rfl, t0, t1, _, rfl⟩
    have t2 : tol ≤ 4 := by omega
    clear t1 k0a k0b
    obtain ⟨b, off, z, rfl, hbz, hz, hzo, c0, c1, c2, c3, c4⟩ := hS.get k hk
    have hv := Hval.out z (List.mem_of_getElem? hz)
    have hti : inB tol 0 100 = true := inB_iff.2 (by omega)
    have hC : pnC zs k tol = 0 := by
      rw [pnC, hlt, hti, HN.out]
      have : (decide (0 ≤ (k : Int)) && decide ((k : Int) < N)) = true := by simp; omega
      rw [this]; rfl
    have hI := pnI_at hz tol
    obtain ⟨q, hq⟩ : ∃ q, needI zs z.x tol = q := ⟨_, rfl⟩
    rw [hq] at hI
    by_cases hq0 : 0 ≤ q
    · obtain ⟨j, rfl⟩ := Int.eq_ofNat_of_zero_le hq0
      have hV : pnV zs k tol = j + 1 := by simp [pnV, hC, hI]
      have hK : pnK zs k tol = 0 := by simp [pnK, hC, hI]
      obtain ⟨j24, jn, jno⟩ := need_base hq
      have hj1 : z.x.k = 1 → j = 0 := fun h => by
        simp only [needB, Bool.and_eq_true, decide_eq_true_eq] at jn
        have := jn.1
        rw [h] at this
        simpa using this
      have hiff := fun (m : Nat) (h1 : 1 ≤ m) (h24 : m ≤ 24) (hk : z.x.k = 1 → m = 1) (hjm : j ≤ m) => need_iff (m := m) hz hv t0 hq h1 h24 hk
      have hmem := fun (m : Nat) (h1 : 1 ≤ m) (hk : z.x.k = 1 → m = 1) => see_mem (m := m) (tol := tol) hz hv t0 h1 hk
      have hobs := fun (m : Nat) (h1 : 1 ≤ m) (h24 : m ≤ 24) (hk : z.x.k = 1 → m = 1) => obs_see (m := m) hv h1 h24 hk
      have hob := fun (m : Nat) (h1 : 1 ≤ m) (h24 : m ≤ 24) (hk : z.x.k = 1 → m = 1) => see_obs (n := m) hv (oneC_col hv) (start_first hv) hk h1 h24
      have hsz := fun (m : Nat) (hk : z.x.k = 1 → m = 1) => see_size (n := m) hv (oneC_col hv) (start_first hv) hk
      have hocb : (z.x.k == 2) = ocB z.x := rfl
      obtain ⟨st, hst⟩ : ∃ st, firstLit z.x = st := ⟨_, rfl⟩
      obtain ⟨hc1, hc3⟩ := colors_one hv
      have hc1' : (1 : Int) ≤ (z.x.cs.size : Int) := by omega
      rw [hst] at hiff hmem hobs hob hsz
      have Hsz := Lib.hid hsz; clear hsz
      have hfl1 : z.x.k = 2 → st = 1 := fun h => by rw [← hst, firstLit, ← hocb, h]; rfl
      have hfl0 : z.x.k ≠ 2 → st = 0 := fun h => by rw [← hst, firstLit, ← hocb, show (z.x.k == 2) = false by simpa using h]; rfl
      clear jn jno hocb
      have Hst := Lib.hid hst; clear hst
      have HC := Lib.hid hC; clear hC
      have HI := Lib.hid hI; clear hI
      have Hq := Lib.hid hq; clear hq
      have HV := Lib.hid hV; clear hV
      have HK := Lib.hid hK; clear hK
      have Hiff := Lib.hid hiff; clear hiff
      have Hmem := Lib.hid hmem; clear hmem
      have Hobs := Lib.hid hobs; clear hobs
      have Hob := Lib.hid hob; clear hob
      have Hz := Lib.hid hz; clear hz
      have Hj1 := Lib.hid hj1; clear hj1
      have Hfl1 := Lib.hid hfl1; clear hfl1
      have Hfl0 := Lib.hid hfl0; clear hfl0
      have Hlt := Lib.hid hlt; clear hlt
      have Hti := Lib.hid hti; clear hti
      have j0 : (0 : Int) ≤ (k : Int) := by omega
      have j1 : (k : Int) < (N : Int) := by omega
      have hb3k : z.x.k = 1 ∨ z.x.k = 2 ∨ (z.x.k ≠ 1 ∧ z.x.k ≠ 2) := by omega
      have jb0 : (0 : Int) ≤ (j : Int) := by omega
      have jb1 : (j : Int) ≤ 23 := by omega
      go_wp2_with fail
      refine (implNeed_c (some ⟨b, off, none⟩) N cz zs (k : Int) tol _ hS (by omega)).mono ?_
      rintro e w4 ⟨rfl, hb4⟩
      rw [HV.out, HK.out]
      have H4 := hb2.trans (hb4.mono hb2.size)
      have q4 := keepC hb4 b hbz
      have hS4 := hS.next hb4
      have hzo4 := hzo.next hb4
      have hbX : Below w4.heap.size w4 (w4.alloc (.cells #[.int .i64 z.x.k, .slice z.A z.n z.c, .string z.x.l, .string z.x.cs, .int .i64 z.x.p] 30)) := by (repeat (first | (with_reducible assumption) | (with_reducible exact Below.refl _ _) | exact Nat.le_refl _ | exact Below.size (by with_reducible assumption) | (with_reducible refine Below.drew ?_) | (with_reducible refine below_drewN ?_ _) | (with_reducible refine Below.alloc ?_ ?_ _) | (with_reducible refine Below.setCell ?_ ?_ _) | (with_reducible refine le_alloc ?_ _) | (with_reducible refine le_set ?_ _ _) | (with_reducible refine le_drew ?_) | (with_reducible refine le_drewN ?_ _) | omega | (dsimp only; omega)))
      have hzX : w4.heap.size < (w4.alloc (.cells #[.int .i64 z.x.k, .slice z.A z.n z.c, .string z.x.l, .string z.x.cs, .int .i64 z.x.p] 30)).heap.size := by simp
      obtain ⟨d0, d1, d2, d3, d4, _, _, _, _, _⟩ := chp_box (c := z.c) 30 hzo4.sl hzo.hn hzo.hl hzo.hs
      simp only [Nat.zero_add] at d0 d1 d2 d3 d4
      rcases hb3k with hk | hk | ⟨hk, hk2⟩
      · have hk1 : (z.x.k == 1) = true := by rw [hk]; rfl
        have hk2 : (z.x.k == 2) = false := by rw [hk]; rfl
        obtain rfl : st = 0 := Hfl0.out (by omega)
        obtain rfl : j = 0 := Hj1.out hk
        have Hk := Lib.hid hk; clear hk
        go_wp2_with fail
        generalize w4.alloc (.cells #[.int .i64 z.x.k, .slice z.A z.n z.c, .string z.x.l, .string z.x.cs, .int .i64 z.x.p] 30) = w5 at *
        have H5 := H4.trans (hbX.mono H4.size)
        have hS5 := hS4.next hbX
        have hzo5 := hzo4.next hbX
        go_loopw [12] (fun i wr => ∃ m : Nat, i = .int .i64 m ∧ 0 ≤ m ∧ m ≤ 0 + 4 ∧ Below w5.heap.size w5 wr) (fun i _ => 40 - (intOf i).toNat)
        case atStart => exact ⟨0, rfl, Nat.le_refl _, by omega, Below.refl _ _⟩
        case round =>
          obtain ⟨m, rfl, hm1, hm2, hbw⟩ := hrel
          have H6 := H5.trans (hbw.mono H5.size)
          have q6 := keepC hbw w4.heap.size hzX
          have zr : w4.heap.size < wr.heap.size := Nat.lt_of_lt_of_le hzX hbw.size
          by_cases hin : m ≤ 3
          · by_cases hm0 : m < 1
            · go_wp2_with fail
              go_roundw
              case rel => exact ⟨m + 1, by go_num, by omega, by omega, hbw⟩
              case measure => simp [intOf]; omega
            · by_cases hmk : 1 < m
              · go_wp2_with fail
                go_roundw
                case rel => exact ⟨m + 1, by go_num, by omega, by omega, hbw⟩
                case measure => simp [intOf]; omega
              · have hkm : z.x.k = 1 → m = 1 := fun _ => by omega
                have Hkm := Lib.hid hkm; clear hkm
                have hobs := Hobs.out m (by omega) (by omega) Hkm.out
                have hA := ask_zero Hlt.out (Hob.out m (by omega) (by omega) Hkm.out) Hti.out
                have hmm := Hmem.out m (by omega) Hkm.out
                have hif : decide ((hitsL zs (seeL (phasesL z.x (oneC z.x.cs)) 0 m) tol).length = 1) = decide (0 + 1 ≤ m) := by
                  rcases Hiff.out m (by omega) (by omega) Hkm.out hm1 with h | h
                  · exact h
                  · omega
                have hszs := Hsz.out m Hkm.out
                have hhl := hits_len zs (seeL (phasesL z.x (oneC z.x.cs)) 0 m) tol zs.length
                rw [HN.out] at hhl
                have hol := seeL_len (phasesL z.x (oneC z.x.cs)) 0 m
                generalize seeL (phasesL z.x (oneC z.x.cs)) 0 m = O at *
                have Hol := Lib.hid hol; clear hol
                have Hobs1 := Lib.hid hobs; clear hobs
                have HA := Lib.hid hA; clear hA
                have Hmm := Lib.hid hmm; clear hmm
                have Hif := Lib.hid hif; clear hif
                have Hszs := Lib.hid hszs; clear hszs
                have Hhl := Lib.hid hhl; clear hhl
                go_wp2_with fail
                have e1 : ∀ {w' : World}, Below wr.heap.size wr w' → (Below wr.heap.size wr w' ∧ (∀ x, w'.cell? ⟨w4.heap.size, x, none⟩ = wr.cell? ⟨w4.heap.size, x, none⟩)) := fun hb => ⟨hb, keepC hb _ zr⟩
                refine wp_region_held_drew (S := fun w' => Below wr.heap.size wr w' ∧ (∀ x, w'.cell? ⟨w4.heap.size, x, none⟩ = wr.cell? ⟨w4.heap.size, x, none⟩)) (by kernel_rfl) (e1 (Below.refl _ _).drew) (fun hHeld => ?_)
                (first
                  | (refine wpAnyH_take (i := 0) (v := ?_) rfl (by kernel_rfl) (by kernel_rfl) (by kernel_rfl) (fun _ _ _ h => h) (Or.inl ⟨by rfl, ?_⟩) (by assumption) ?_
                     rotate_left
                     focus (intro wq hSq; (try dsimp only at hSq); go_simp; (try (with_reducible rfl)); done))
                  | (refine wpAnyH_take (i := 0) (v := undef) rfl (by kernel_rfl) (by kernel_rfl) (by kernel_rfl) (fun _ _ _ h => h) (Or.inr ⟨by rfl, rfl⟩) (by assumption) ?_)
                  | fail "take 0")
                try simp only [Act.put, List.setIfInBounds_toArray, List.set_cons_zero, List.set_cons_succ, List.getElem_toArray, List.getElem_cons_zero]
                (first
                  | (refine wpAnyH_take (i := 1) (v := ?_) rfl (by kernel_rfl) (by kernel_rfl) (by kernel_rfl) (fun _ _ _ h => h) (Or.inl ⟨by rfl, ?_⟩) (by assumption) ?_
                     rotate_left
                     focus (intro wq hSq; (try dsimp only at hSq); go_simp; (try (with_reducible rfl)); done))
                  | (refine wpAnyH_take (i := 1) (v := undef) rfl (by kernel_rfl) (by kernel_rfl) (by kernel_rfl) (fun _ _ _ h => h) (Or.inr ⟨by rfl, rfl⟩) (by assumption) ?_)
                  | fail "take 1")
                try simp only [Act.put, List.setIfInBounds_toArray, List.set_cons_zero, List.set_cons_succ, List.getElem_toArray, List.getElem_cons_zero, List.getElem_cons_succ]
                (first
                  | (refine wpAnyH_take (i := 2) (v := ?_) rfl (by kernel_rfl) (by kernel_rfl) (by kernel_rfl) (fun _ _ _ h => h) (Or.inl ⟨by rfl, ?_⟩) (by assumption) ?_
                     rotate_left
                     focus (intro wq hSq; (try dsimp only at hSq); go_simp; (try (with_reducible rfl)); done))
                  | (refine wpAnyH_take (i := 2) (v := undef) rfl (by kernel_rfl) (by kernel_rfl) (by kernel_rfl) (fun _ _ _ h => h) (Or.inr ⟨by rfl, rfl⟩) (by assumption) ?_)
                  | fail "take 2")
                try simp only [Act.put, List.setIfInBounds_toArray, List.set_cons_zero, List.set_cons_succ, List.getElem_toArray, List.getElem_cons_zero, List.getElem_cons_succ]
                (first
                  | (refine wpAnyH_take (i := 3) (v := ?_) rfl (by kernel_rfl) (by kernel_rfl) (by kernel_rfl) (fun _ _ _ h => h) (Or.inl ⟨by rfl, ?_⟩) (by assumption) ?_
                     rotate_left
                     focus (intro wq hSq; (try dsimp only at hSq); go_simp; (try (with_reducible rfl)); done))
                  | (refine wpAnyH_take (i := 3) (v := undef) rfl (by kernel_rfl) (by kernel_rfl) (by kernel_rfl) (fun _ _ _ h => h) (Or.inr ⟨by rfl, rfl⟩) (by assumption) ?_)
                  | fail "take 3")
                try simp only [Act.put, List.setIfInBounds_toArray, List.set_cons_zero, List.set_cons_succ, List.getElem_toArray, List.getElem_cons_zero, List.getElem_cons_succ]
                (first
                  | (refine wpAnyH_take (i := 4) (v := ?_) rfl (by kernel_rfl) (by kernel_rfl) (by kernel_rfl) (fun _ _ _ h => h) (Or.inl ⟨by rfl, ?_⟩) (by assumption) ?_
                     rotate_left
                     focus (intro wq hSq; (try dsimp only at hSq); go_simp; (try (with_reducible rfl)); done))
                  | (refine wpAnyH_take (i := 4) (v := undef) rfl (by kernel_rfl) (by kernel_rfl) (by kernel_rfl) (fun _ _ _ h => h) (Or.inr ⟨by rfl, rfl⟩) (by assumption) ?_)
                  | fail "take 4")
                try simp only [Act.put, List.setIfInBounds_toArray, List.set_cons_zero, List.set_cons_succ, List.getElem_toArray, List.getElem_cons_zero, List.getElem_cons_succ]
                (first
                  | (refine wpAnyH_take (i := 5) (v := ?_) rfl (by kernel_rfl) (by kernel_rfl) (by kernel_rfl) (fun _ _ _ h => h) (Or.inl ⟨by rfl, ?_⟩) (by assumption) ?_
                     rotate_left
                     focus (intro wq hSq; (try dsimp only at hSq); go_simp; (try (with_reducible rfl)); done))
                  | (refine wpAnyH_take (i := 5) (v := undef) rfl (by kernel_rfl) (by kernel_rfl) (by kernel_rfl) (fun _ _ _ h => h) (Or.inr ⟨by rfl, rfl⟩) (by assumption) ?_)
                  | fail "take 5")
                try simp only [Act.put, List.setIfInBounds_toArray, List.set_cons_zero, List.set_cons_succ, List.getElem_toArray, List.getElem_cons_zero, List.getElem_cons_succ]
                refine wpAnyH_ready (rs := [6]) (by kernel_rfl) (by simp) ?_
                refine AllReadyH.cons (o := _) rfl (fun K hK => ?_) AllReadyH.nil
                go_simp
                refine (specObserve_c z.A z.n z.c z.x _ ((hzo5.next hbw).next (Below.refl _ _).drew).sl hzo.hn hzo.hl hzo.hs (oneC z.x.cs) 0 (m : Int)).mono ?_; intro e w6 hpost; rw [Hobs1.out] at hpost; obtain ⟨v6, rfl, hoO, hb6⟩ := hpost; have hb16 := (Below.refl wr.heap.size wr).drew.trans hb6
                refine hK.out _ _ ?_ (fun hHeld => ?_)
                · exact e1 hb16
                clear hK K
                dsimp only at hoO ⊢
                (first
                  | (refine wpAnyH_take (i := 7) (v := ?_) rfl (by kernel_rfl) (by kernel_rfl) (by kernel_rfl) (fun _ _ _ h => h) (Or.inl ⟨by rfl, ?_⟩) (by assumption) ?_
                     rotate_left
                     focus (intro wq hSq; (try dsimp only at hSq); go_simp; (try (with_reducible rfl)); done))
                  | (refine wpAnyH_take (i := 7) (v := undef) rfl (by kernel_rfl) (by kernel_rfl) (by kernel_rfl) (fun _ _ _ h => h) (Or.inr ⟨by rfl, rfl⟩) (by assumption) ?_)
                  | fail "take 7")
                try simp only [Act.put, List.setIfInBounds_toArray, List.set_cons_zero, List.set_cons_succ, List.getElem_toArray, List.getElem_cons_zero, List.getElem_cons_succ]
                (first
                  | (refine wpAnyH_take (i := 8) (v := ?_) rfl (by kernel_rfl) (by kernel_rfl) (by kernel_rfl) (fun _ _ _ h => h) (Or.inl ⟨by rfl, ?_⟩) (by assumption) ?_
                     rotate_left
                     focus (intro wq hSq; (try dsimp only at hSq); go_simp; (try (with_reducible rfl)); done))
                  | (refine wpAnyH_take (i := 8) (v := undef) rfl (by kernel_rfl) (by kernel_rfl) (by kernel_rfl) (fun _ _ _ h => h) (Or.inr ⟨by rfl, rfl⟩) (by assumption) ?_)
                  | fail "take 8")
                try simp only [Act.put, List.setIfInBounds_toArray, List.set_cons_zero, List.set_cons_succ, List.getElem_toArray, List.getElem_cons_zero, List.getElem_cons_succ]
                (first
                  | (refine wpAnyH_take (i := 9) (v := ?_) rfl (by kernel_rfl) (by kernel_rfl) (by kernel_rfl) (fun _ _ _ h => h) (Or.inl ⟨by rfl, ?_⟩) (by assumption) ?_
                     rotate_left
                     focus (intro wq hSq; (try dsimp only at hSq); go_simp; (try (with_reducible rfl)); done))
                  | (refine wpAnyH_take (i := 9) (v := undef) rfl (by kernel_rfl) (by kernel_rfl) (by kernel_rfl) (fun _ _ _ h => h) (Or.inr ⟨by rfl, rfl⟩) (by assumption) ?_)
                  | fail "take 9")
                try simp only [Act.put, List.setIfInBounds_toArray, List.set_cons_zero, List.set_cons_succ, List.getElem_toArray, List.getElem_cons_zero, List.getElem_cons_succ]
                (first
                  | (refine wpAnyH_take (i := 10) (v := ?_) rfl (by kernel_rfl) (by kernel_rfl) (by kernel_rfl) (fun _ _ _ h => h) (Or.inl ⟨by rfl, ?_⟩) (by assumption) ?_
                     rotate_left
                     focus (intro wq hSq; (try dsimp only at hSq); go_simp; (try (with_reducible rfl)); done))
                  | (refine wpAnyH_take (i := 10) (v := undef) rfl (by kernel_rfl) (by kernel_rfl) (by kernel_rfl) (fun _ _ _ h => h) (Or.inr ⟨by rfl, rfl⟩) (by assumption) ?_)
                  | fail "take 10")
                try simp only [Act.put, List.setIfInBounds_toArray, List.set_cons_zero, List.set_cons_succ, List.getElem_toArray, List.getElem_cons_zero, List.getElem_cons_succ]
                (first
                  | (refine wpAnyH_take (i := 11) (v := ?_) rfl (by kernel_rfl) (by kernel_rfl) (by kernel_rfl) (fun _ _ _ h => h) (Or.inl ⟨by rfl, ?_⟩) (by assumption) ?_
                     rotate_left
                     focus (intro wq hSq; (try dsimp only at hSq); go_simp; (try (with_reducible rfl)); done))
                  | (refine wpAnyH_take (i := 11) (v := undef) rfl (by kernel_rfl) (by kernel_rfl) (by kernel_rfl) (fun _ _ _ h => h) (Or.inr ⟨by rfl, rfl⟩) (by assumption) ?_)
                  | fail "take 11")
                try simp only [Act.put, List.setIfInBounds_toArray, List.set_cons_zero, List.set_cons_succ, List.getElem_toArray, List.getElem_cons_zero, List.getElem_cons_succ]
                refine wpAnyH_done (by kernel_rfl) ?_ _
                have hb6s := hb16
                rw [show O.length = m from Hol.out] at hoO
                obtain ⟨AO, cO, rfl⟩ := own_slice hoO
                have hbw6 := hbw.trans (hb16.mono hbw.size)
                have H7 := H6.trans (hb16.mono H6.size)
                have hS7 := (hS5.next hbw).next hb16
                clear hHeld e1 hb6 hb6s
                go_wp2_with fail
                refine (implIdent_c (some ⟨b, off, none⟩) N cz zs AO m cO O tol _ hS7 (by omega) (Sl.of_own hoO) (by omega) Hszs.out).mono ?_
                rintro e w7 ⟨v7, rfl, hid, hb7⟩
                rw [IdAns, HA.out] at hid
                rw [HA.out]
                obtain ⟨hid0, _⟩ | ⟨_, hov⟩ := hid
                · exact absurd rfl hid0
                obtain ⟨A7, c7, rfl⟩ := own_slice hov
                have hbw7 := hbw6.trans (hb7.mono hbw6.size)
                have hmm := Hmm.out
                have hif := Hif.out
                have hhl2 : (hitsL zs O tol).length ≤ N := by have := Hhl.out; rw [hitsL, HN.out]; exact this
                generalize hitsL zs O tol = LL at *
                generalize hLn : LL.length = Ln at *
                have hmm2 : (k : Int) ∈ LL.map fun (i : Nat) => (i : Int) := List.mem_map_of_mem (f := fun (i : Nat) => (i : Int)) hmm
                have HLn := Lib.hid hLn; clear hLn
                have Hmm2 := Lib.hid hmm; clear hmm
                have Hmm3 := Lib.hid hmm2; clear hmm2
                have Hif2 := Lib.hid hif; clear hif
                go_wp2_with fail
                refine (r8Has_c A7 Ln c7 _ _ (k : Int) _ (Sl.of_own hov) Hmm3.out (by omega)).mono ?_
                rintro e w8 ⟨rfl, rfl⟩
                have hif2 := Hif2.out
                by_cases hjm : 0 + 1 ≤ m
                · rw [decide_eq_true hjm, decide_eq_true_eq] at hif2
                  subst hif2
                  have hji1 : (0 : Int) + 1 ≤ (m : Int) := by omega
                  have hji2 : (1 : Int) ≤ (m : Int) := by omega
                  go_wp2_with fail
                  go_roundw
                  case rel => exact ⟨m + 1, by go_num, by omega, by omega, hbw7⟩
                  case measure => simp [intOf]; omega
                · first
                  | (exfalso; omega)
                  | (rw [decide_eq_false hjm, decide_eq_false_iff_not] at hif2
                     have hx1 : ((Ln : Int) == 1) = false := by simpa using (show ¬ (Ln : Int) = 1 by omega)
                     have Hif3 := Lib.hid hif2; clear hif2
                     have hji1 : ¬ (0 : Int) + 1 ≤ (m : Int) := by omega
                     have hji2 : (m : Int) < (0 : Int) + 1 := by omega
                     go_wp2_with fail
                     go_roundw
                     case rel => exact ⟨m + 1, by go_num, by omega, by omega, hbw7⟩
                     case measure => simp [intOf]; omega)
          · go_wp2_with fail
            go_ret
            exact ⟨rfl, H6⟩
      · have hk1 : (z.x.k == 1) = false := by rw [hk]; rfl
        have hk2 : (z.x.k == 2) = true := by rw [hk]; rfl
        obtain rfl : st = 1 := Hfl1.out hk
        have Hk := Lib.hid hk; clear hk
        go_wp2_with fail
        generalize w4.alloc (.cells #[.int .i64 z.x.k, .slice z.A z.n z.c, .string z.x.l, .string z.x.cs, .int .i64 z.x.p] 30) = w5 at *
        have H5 := H4.trans (hbX.mono H4.size)
        have hS5 := hS4.next hbX
        have hzo5 := hzo4.next hbX
        go_loopw [12] (fun i wr => ∃ m : Nat, i = .int .i64 m ∧ j ≤ m ∧ m ≤ j + 4 ∧ Below w5.heap.size w5 wr) (fun i _ => 40 - (intOf i).toNat)
        case atStart => exact ⟨j, rfl, Nat.le_refl _, by omega, Below.refl _ _⟩
        case round =>
          obtain ⟨m, rfl, hm1, hm2, hbw⟩ := hrel
          have H6 := H5.trans (hbw.mono H5.size)
          have q6 := keepC hbw w4.heap.size hzX
          have zr : w4.heap.size < wr.heap.size := Nat.lt_of_lt_of_le hzX hbw.size
          by_cases hin : m ≤ j + 3
          · by_cases hin2 : m ≤ 24
            · by_cases hm0 : m < 1
              · go_wp2_with fail
                go_roundw
                case rel => exact ⟨m + 1, by go_num, by omega, by omega, hbw⟩
                case measure => simp [intOf]; omega
              · have hkm : z.x.k = 1 → m = 1 := fun h => by rw [h] at hk1; cases hk1
                have Hkm := Lib.hid hkm; clear hkm
                have hobs := Hobs.out m (by omega) (by omega) Hkm.out
                have hA := ask_zero Hlt.out (Hob.out m (by omega) (by omega) Hkm.out) Hti.out
                have hmm := Hmem.out m (by omega) Hkm.out
                have hif : decide ((hitsL zs (seeL (phasesL z.x (oneC z.x.cs)) 1 m) tol).length = 1) = decide (j + 1 ≤ m) := by
                  rcases Hiff.out m (by omega) (by omega) Hkm.out hm1 with h | h
                  · exact h
                  · omega
                have hszs := Hsz.out m Hkm.out
                have hhl := hits_len zs (seeL (phasesL z.x (oneC z.x.cs)) 1 m) tol zs.length
                rw [HN.out] at hhl
                have hol := seeL_len (phasesL z.x (oneC z.x.cs)) 1 m
                generalize seeL (phasesL z.x (oneC z.x.cs)) 1 m = O at *
                have Hol := Lib.hid hol; clear hol
                have Hobs1 := Lib.hid hobs; clear hobs
                have HA := Lib.hid hA; clear hA
                have Hmm := Lib.hid hmm; clear hmm
                have Hif := Lib.hid hif; clear hif
                have Hszs := Lib.hid hszs; clear hszs
                have Hhl := Lib.hid hhl; clear hhl
                go_wp2_with fail
                have e1 : ∀ {w' : World}, Below wr.heap.size wr w' → (Below wr.heap.size wr w' ∧ (∀ x, w'.cell? ⟨w4.heap.size, x, none⟩ = wr.cell? ⟨w4.heap.size, x, none⟩)) := fun hb => ⟨hb, keepC hb _ zr⟩
                refine wp_region_held_drew (S := fun w' => Below wr.heap.size wr w' ∧ (∀ x, w'.cell? ⟨w4.heap.size, x, none⟩ = wr.cell? ⟨w4.heap.size, x, none⟩)) (by kernel_rfl) (e1 (Below.refl _ _).drew) (fun hHeld => ?_)
                (first
                  | (refine wpAnyH_take (i := 0) (v := ?_) rfl (by kernel_rfl) (by kernel_rfl) (by kernel_rfl) (fun _ _ _ h => h) (Or.inl ⟨by rfl, ?_⟩) (by assumption) ?_
                     rotate_left
                     focus (intro wq hSq; (try dsimp only at hSq); go_simp; (try (with_reducible rfl)); done))
                  | (refine wpAnyH_take (i := 0) (v := undef) rfl (by kernel_rfl) (by kernel_rfl) (by kernel_rfl) (fun _ _ _ h => h) (Or.inr ⟨by rfl, rfl⟩) (by assumption) ?_)
                  | fail "take 0")
                try simp only [Act.put, List.setIfInBounds_toArray, List.set_cons_zero, List.set_cons_succ, List.getElem_toArray, List.getElem_cons_zero]
                (first
                  | (refine wpAnyH_take (i := 1) (v := ?_) rfl (by kernel_rfl) (by kernel_rfl) (by kernel_rfl) (fun _ _ _ h => h) (Or.inl ⟨by rfl, ?_⟩) (by assumption) ?_
                     rotate_left
                     focus (intro wq hSq; (try dsimp only at hSq); go_simp; (try (with_reducible rfl)); done))
                  | (refine wpAnyH_take (i := 1) (v := undef) rfl (by kernel_rfl) (by kernel_rfl) (by kernel_rfl) (fun _ _ _ h => h) (Or.inr ⟨by rfl, rfl⟩) (by assumption) ?_)
                  | fail "take 1")
                try simp only [Act.put, List.setIfInBounds_toArray, List.set_cons_zero, List.set_cons_succ, List.getElem_toArray, List.getElem_cons_zero, List.getElem_cons_succ]
                (first
                  | (refine wpAnyH_take (i := 2) (v := ?_) rfl (by kernel_rfl) (by kernel_rfl) (by kernel_rfl) (fun _ _ _ h => h) (Or.inl ⟨by rfl, ?_⟩) (by assumption) ?_
                     rotate_left
                     focus (intro wq hSq; (try dsimp only at hSq); go_simp; (try (with_reducible rfl)); done))
                  | (refine wpAnyH_take (i := 2) (v := undef) rfl (by kernel_rfl) (by kernel_rfl) (by kernel_rfl) (fun _ _ _ h => h) (Or.inr ⟨by rfl, rfl⟩) (by assumption) ?_)
                  | fail "take 2")
                try simp only [Act.put, List.setIfInBounds_toArray, List.set_cons_zero, List.set_cons_succ, List.getElem_toArray, List.getElem_cons_zero, List.getElem_cons_succ]
                (first
                  | (refine wpAnyH_take (i := 3) (v := ?_) rfl (by kernel_rfl) (by kernel_rfl) (by kernel_rfl) (fun _ _ _ h => h) (Or.inl ⟨by rfl, ?_⟩) (by assumption) ?_
                     rotate_left
                     focus (intro wq hSq; (try dsimp only at hSq); go_simp; (try (with_reducible rfl)); done))
                  | (refine wpAnyH_take (i := 3) (v := undef) rfl (by kernel_rfl) (by kernel_rfl) (by kernel_rfl) (fun _ _ _ h => h) (Or.inr ⟨by rfl, rfl⟩) (by assumption) ?_)
                  | fail "take 3")
                try simp only [Act.put, List.setIfInBounds_toArray, List.set_cons_zero, List.set_cons_succ, List.getElem_toArray, List.getElem_cons_zero, List.getElem_cons_succ]
                (first
                  | (refine wpAnyH_take (i := 4) (v := ?_) rfl (by kernel_rfl) (by kernel_rfl) (by kernel_rfl) (fun _ _ _ h => h) (Or.inl ⟨by rfl, ?_⟩) (by assumption) ?_
                     rotate_left
                     focus (intro wq hSq; (try dsimp only at hSq); go_simp; (try (with_reducible rfl)); done))
                  | (refine wpAnyH_take (i := 4) (v := undef) rfl (by kernel_rfl) (by kernel_rfl) (by kernel_rfl) (fun _ _ _ h => h) (Or.inr ⟨by rfl, rfl⟩) (by assumption) ?_)
                  | fail "take 4")
                try simp only [Act.put, List.setIfInBounds_toArray, List.set_cons_zero, List.set_cons_succ, List.getElem_toArray, List.getElem_cons_zero, List.getElem_cons_succ]
                (first
                  | (refine wpAnyH_take (i := 5) (v := ?_) rfl (by kernel_rfl) (by kernel_rfl) (by kernel_rfl) (fun _ _ _ h => h) (Or.inl ⟨by rfl, ?_⟩) (by assumption) ?_
                     rotate_left
                     focus (intro wq hSq; (try dsimp only at hSq); go_simp; (try (with_reducible rfl)); done))
                  | (refine wpAnyH_take (i := 5) (v := undef) rfl (by kernel_rfl) (by kernel_rfl) (by kernel_rfl) (fun _ _ _ h => h) (Or.inr ⟨by rfl, rfl⟩) (by assumption) ?_)
                  | fail "take 5")
                try simp only [Act.put, List.setIfInBounds_toArray, List.set_cons_zero, List.set_cons_succ, List.getElem_toArray, List.getElem_cons_zero, List.getElem_cons_succ]
                refine wpAnyH_ready (rs := [6]) (by kernel_rfl) (by simp) ?_
                refine AllReadyH.cons (o := _) rfl (fun K hK => ?_) AllReadyH.nil
                go_simp
                refine (specObserve_c z.A z.n z.c z.x _ ((hzo5.next hbw).next (Below.refl _ _).drew).sl hzo.hn hzo.hl hzo.hs (oneC z.x.cs) 1 (m : Int)).mono ?_; intro e w6 hpost; rw [Hobs1.out] at hpost; obtain ⟨v6, rfl, hoO, hb6⟩ := hpost; have hb16 := (Below.refl wr.heap.size wr).drew.trans hb6
                refine hK.out _ _ ?_ (fun hHeld => ?_)
                · exact e1 hb16
                clear hK K
                dsimp only at hoO ⊢
                (first
                  | (refine wpAnyH_take (i := 7) (v := ?_) rfl (by kernel_rfl) (by kernel_rfl) (by kernel_rfl) (fun _ _ _ h => h) (Or.inl ⟨by rfl, ?_⟩) (by assumption) ?_
                     rotate_left
                     focus (intro wq hSq; (try dsimp only at hSq); go_simp; (try (with_reducible rfl)); done))
                  | (refine wpAnyH_take (i := 7) (v := undef) rfl (by kernel_rfl) (by kernel_rfl) (by kernel_rfl) (fun _ _ _ h => h) (Or.inr ⟨by rfl, rfl⟩) (by assumption) ?_)
                  | fail "take 7")
                try simp only [Act.put, List.setIfInBounds_toArray, List.set_cons_zero, List.set_cons_succ, List.getElem_toArray, List.getElem_cons_zero, List.getElem_cons_succ]
                (first
                  | (refine wpAnyH_take (i := 8) (v := ?_) rfl (by kernel_rfl) (by kernel_rfl) (by kernel_rfl) (fun _ _ _ h => h) (Or.inl ⟨by rfl, ?_⟩) (by assumption) ?_
                     rotate_left
                     focus (intro wq hSq; (try dsimp only at hSq); go_simp; (try (with_reducible rfl)); done))
                  | (refine wpAnyH_take (i := 8) (v := undef) rfl (by kernel_rfl) (by kernel_rfl) (by kernel_rfl) (fun _ _ _ h => h) (Or.inr ⟨by rfl, rfl⟩) (by assumption) ?_)
                  | fail "take 8")
                try simp only [Act.put, List.setIfInBounds_toArray, List.set_cons_zero, List.set_cons_succ, List.getElem_toArray, List.getElem_cons_zero, List.getElem_cons_succ]
                (first
                  | (refine wpAnyH_take (i := 9) (v := ?_) rfl (by kernel_rfl) (by kernel_rfl) (by kernel_rfl) (fun _ _ _ h => h) (Or.inl ⟨by rfl, ?_⟩) (by assumption) ?_
                     rotate_left
                     focus (intro wq hSq; (try dsimp only at hSq); go_simp; (try (with_reducible rfl)); done))
                  | (refine wpAnyH_take (i := 9) (v := undef) rfl (by kernel_rfl) (by kernel_rfl) (by kernel_rfl) (fun _ _ _ h => h) (Or.inr ⟨by rfl, rfl⟩) (by assumption) ?_)
                  | fail "take 9")
                try simp only [Act.put, List.setIfInBounds_toArray, List.set_cons_zero, List.set_cons_succ, List.getElem_toArray, List.getElem_cons_zero, List.getElem_cons_succ]
                (first
                  | (refine wpAnyH_take (i := 10) (v := ?_) rfl (by kernel_rfl) (by kernel_rfl) (by kernel_rfl) (fun _ _ _ h => h) (Or.inl ⟨by rfl, ?_⟩) (by assumption) ?_
                     rotate_left
                     focus (intro wq hSq; (try dsimp only at hSq); go_simp; (try (with_reducible rfl)); done))
                  | (refine wpAnyH_take (i := 10) (v := undef) rfl (by kernel_rfl) (by kernel_rfl) (by kernel_rfl) (fun _ _ _ h => h) (Or.inr ⟨by rfl, rfl⟩) (by assumption) ?_)
                  | fail "take 10")
                try simp only [Act.put, List.setIfInBounds_toArray, List.set_cons_zero, List.set_cons_succ, List.getElem_toArray, List.getElem_cons_zero, List.getElem_cons_succ]
                (first
                  | (refine wpAnyH_take (i := 11) (v := ?_) rfl (by kernel_rfl) (by kernel_rfl) (by kernel_rfl) (fun _ _ _ h => h) (Or.inl ⟨by rfl, ?_⟩) (by assumption) ?_
                     rotate_left
                     focus (intro wq hSq; (try dsimp only at hSq); go_simp; (try (with_reducible rfl)); done))
                  | (refine wpAnyH_take (i := 11) (v := undef) rfl (by kernel_rfl) (by kernel_rfl) (by kernel_rfl) (fun _ _ _ h => h) (Or.inr ⟨by rfl, rfl⟩) (by assumption) ?_)
                  | fail "take 11")
                try simp only [Act.put, List.setIfInBounds_toArray, List.set_cons_zero, List.set_cons_succ, List.getElem_toArray, List.getElem_cons_zero, List.getElem_cons_succ]
                refine wpAnyH_done (by kernel_rfl) ?_ _
                have hb6s := hb16
                rw [show O.length = m from Hol.out] at hoO
                obtain ⟨AO, cO, rfl⟩ := own_slice hoO
                have hbw6 := hbw.trans (hb16.mono hbw.size)
                have H7 := H6.trans (hb16.mono H6.size)
                have hS7 := (hS5.next hbw).next hb16
                clear hHeld e1 hb6 hb6s
                go_wp2_with fail
                refine (implIdent_c (some ⟨b, off, none⟩) N cz zs AO m cO O tol _ hS7 (by omega) (Sl.of_own hoO) (by omega) Hszs.out).mono ?_
                rintro e w7 ⟨v7, rfl, hid, hb7⟩
                rw [IdAns, HA.out] at hid
                rw [HA.out]
                obtain ⟨hid0, _⟩ | ⟨_, hov⟩ := hid
                · exact absurd rfl hid0
                obtain ⟨A7, c7, rfl⟩ := own_slice hov
                have hbw7 := hbw6.trans (hb7.mono hbw6.size)
                have hmm := Hmm.out
                have hif := Hif.out
                have hhl2 : (hitsL zs O tol).length ≤ N := by have := Hhl.out; rw [hitsL, HN.out]; exact this
                generalize hitsL zs O tol = LL at *
                generalize hLn : LL.length = Ln at *
                have hmm2 : (k : Int) ∈ LL.map fun (i : Nat) => (i : Int) := List.mem_map_of_mem (f := fun (i : Nat) => (i : Int)) hmm
                have HLn := Lib.hid hLn; clear hLn
                have Hmm2 := Lib.hid hmm; clear hmm
                have Hmm3 := Lib.hid hmm2; clear hmm2
                have Hif2 := Lib.hid hif; clear hif
                go_wp2_with fail
                refine (r8Has_c A7 Ln c7 _ _ (k : Int) _ (Sl.of_own hov) Hmm3.out (by omega)).mono ?_
                rintro e w8 ⟨rfl, rfl⟩
                have hif2 := Hif2.out
                by_cases hjm : j + 1 ≤ m
                · rw [decide_eq_true hjm, decide_eq_true_eq] at hif2
                  subst hif2
                  have hji1 : (j : Int) + 1 ≤ (m : Int) := by omega
                  have hji2 : (1 : Int) ≤ (m : Int) := by omega
                  go_wp2_with fail
                  go_roundw
                  case rel => exact ⟨m + 1, by go_num, by omega, by omega, hbw7⟩
                  case measure => simp [intOf]; omega
                · first
                  | (exfalso; omega)
                  | (rw [decide_eq_false hjm, decide_eq_false_iff_not] at hif2
                     have hx1 : ((Ln : Int) == 1) = false := by simpa using (show ¬ (Ln : Int) = 1 by omega)
                     have Hif3 := Lib.hid hif2; clear hif2
                     have hji1 : ¬ (j : Int) + 1 ≤ (m : Int) := by omega
                     have hji2 : (m : Int) < (j : Int) + 1 := by omega
                     go_wp2_with fail
                     go_roundw
                     case rel => exact ⟨m + 1, by go_num, by omega, by omega, hbw7⟩
                     case measure => simp [intOf]; omega)
            · go_wp2_with fail
              go_ret
              exact ⟨rfl, H6⟩
          · go_wp2_with fail
            go_ret
            exact ⟨rfl, H6⟩
      · have hk1 : (z.x.k == 1) = false := by simpa using hk
        have hk2' : (z.x.k == 2) = false := by simpa using hk2
        obtain rfl : st = 0 := Hfl0.out hk2
        have Hk := Lib.hid hk; clear hk
        have Hk2 := Lib.hid hk2; clear hk2
        go_wp2_with fail
        generalize w4.alloc (.cells #[.int .i64 z.x.k, .slice z.A z.n z.c, .string z.x.l, .string z.x.cs, .int .i64 z.x.p] 30) = w5 at *
        have H5 := H4.trans (hbX.mono H4.size)
        have hS5 := hS4.next hbX
        have hzo5 := hzo4.next hbX
        go_loopw [12] (fun i wr => ∃ m : Nat, i = .int .i64 m ∧ j ≤ m ∧ m ≤ j + 4 ∧ Below w5.heap.size w5 wr) (fun i _ => 40 - (intOf i).toNat)
        case atStart => exact ⟨j, rfl, Nat.le_refl _, by omega, Below.refl _ _⟩
        case round =>
          obtain ⟨m, rfl, hm1, hm2, hbw⟩ := hrel
          have H6 := H5.trans (hbw.mono H5.size)
          have q6 := keepC hbw w4.heap.size hzX
          have zr : w4.heap.size < wr.heap.size := Nat.lt_of_lt_of_le hzX hbw.size
          by_cases hin : m ≤ j + 3
          · by_cases hin2 : m ≤ 24
            · by_cases hm0 : m < 1
              · go_wp2_with fail
                go_roundw
                case rel => exact ⟨m + 1, by go_num, by omega, by omega, hbw⟩
                case measure => simp [intOf]; omega
              · have hkm : z.x.k = 1 → m = 1 := fun h => by rw [h] at hk1; cases hk1
                have Hkm := Lib.hid hkm; clear hkm
                have hobs := Hobs.out m (by omega) (by omega) Hkm.out
                have hA := ask_zero Hlt.out (Hob.out m (by omega) (by omega) Hkm.out) Hti.out
                have hmm := Hmem.out m (by omega) Hkm.out
                have hif : decide ((hitsL zs (seeL (phasesL z.x (oneC z.x.cs)) 0 m) tol).length = 1) = decide (j + 1 ≤ m) := by
                  rcases Hiff.out m (by omega) (by omega) Hkm.out hm1 with h | h
                  · exact h
                  · omega
                have hszs := Hsz.out m Hkm.out
                have hhl := hits_len zs (seeL (phasesL z.x (oneC z.x.cs)) 0 m) tol zs.length
                rw [HN.out] at hhl
                have hol := seeL_len (phasesL z.x (oneC z.x.cs)) 0 m
                generalize seeL (phasesL z.x (oneC z.x.cs)) 0 m = O at *
                have Hol := Lib.hid hol; clear hol
                have Hobs1 := Lib.hid hobs; clear hobs
                have HA := Lib.hid hA; clear hA
                have Hmm := Lib.hid hmm; clear hmm
                have Hif := Lib.hid hif; clear hif
                have Hszs := Lib.hid hszs; clear hszs
                have Hhl := Lib.hid hhl; clear hhl
                go_wp2_with fail
                have e1 : ∀ {w' : World}, Below wr.heap.size wr w' → (Below wr.heap.size wr w' ∧ (∀ x, w'.cell? ⟨w4.heap.size, x, none⟩ = wr.cell? ⟨w4.heap.size, x, none⟩)) := fun hb => ⟨hb, keepC hb _ zr⟩
                refine wp_region_held_drew (S := fun w' => Below wr.heap.size wr w' ∧ (∀ x, w'.cell? ⟨w4.heap.size, x, none⟩ = wr.cell? ⟨w4.heap.size, x, none⟩)) (by kernel_rfl) (e1 (Below.refl _ _).drew) (fun hHeld => ?_)
                (first
                  | (refine wpAnyH_take (i := 0) (v := ?_) rfl (by kernel_rfl) (by kernel_rfl) (by kernel_rfl) (fun _ _ _ h => h) (Or.inl ⟨by rfl, ?_⟩) (by assumption) ?_
                     rotate_left
                     focus (intro wq hSq; (try dsimp only at hSq); go_simp; (try (with_reducible rfl)); done))
                  | (refine wpAnyH_take (i := 0) (v := undef) rfl (by kernel_rfl) (by kernel_rfl) (by kernel_rfl) (fun _ _ _ h => h) (Or.inr ⟨by rfl, rfl⟩) (by assumption) ?_)
                  | fail "take 0")
                try simp only [Act.put, List.setIfInBounds_toArray, List.set_cons_zero, List.set_cons_succ, List.getElem_toArray, List.getElem_cons_zero]
                (first
                  | (refine wpAnyH_take (i := 1) (v := ?_) rfl (by kernel_rfl) (by kernel_rfl) (by kernel_rfl) (fun _ _ _ h => h) (Or.inl ⟨by rfl, ?_⟩) (by assumption) ?_
                     rotate_left
                     focus (intro wq hSq; (try dsimp only at hSq); go_simp; (try (with_reducible rfl)); done))
                  | (refine wpAnyH_take (i := 1) (v := undef) rfl (by kernel_rfl) (by kernel_rfl) (by kernel_rfl) (fun _ _ _ h => h) (Or.inr ⟨by rfl, rfl⟩) (by assumption) ?_)
                  | fail "take 1")
                try simp only [Act.put, List.setIfInBounds_toArray, List.set_cons_zero, List.set_cons_succ, List.getElem_toArray, List.getElem_cons_zero, List.getElem_cons_succ]
                (first
                  | (refine wpAnyH_take (i := 2) (v := ?_) rfl (by kernel_rfl) (by kernel_rfl) (by kernel_rfl) (fun _ _ _ h => h) (Or.inl ⟨by rfl, ?_⟩) (by assumption) ?_
                     rotate_left
                     focus (intro wq hSq; (try dsimp only at hSq); go_simp; (try (with_reducible rfl)); done))
                  | (refine wpAnyH_take (i := 2) (v := undef) rfl (by kernel_rfl) (by kernel_rfl) (by kernel_rfl) (fun _ _ _ h => h) (Or.inr ⟨by rfl, rfl⟩) (by assumption) ?_)
                  | fail "take 2")
                try simp only [Act.put, List.setIfInBounds_toArray, List.set_cons_zero, List.set_cons_succ, List.getElem_toArray, List.getElem_cons_zero, List.getElem_cons_succ]
                (first
                  | (refine wpAnyH_take (i := 3) (v := ?_) rfl (by kernel_rfl) (by kernel_rfl) (by kernel_rfl) (fun _ _ _ h => h) (Or.inl ⟨by rfl, ?_⟩) (by assumption) ?_
                     rotate_left
                     focus (intro wq hSq; (try dsimp only at hSq); go_simp; (try (with_reducible rfl)); done))
                  | (refine wpAnyH_take (i := 3) (v := undef) rfl (by kernel_rfl) (by kernel_rfl) (by kernel_rfl) (fun _ _ _ h => h) (Or.inr ⟨by rfl, rfl⟩) (by assumption) ?_)
                  | fail "take 3")
                try simp only [Act.put, List.setIfInBounds_toArray, List.set_cons_zero, List.set_cons_succ, List.getElem_toArray, List.getElem_cons_zero, List.getElem_cons_succ]
                (first
                  | (refine wpAnyH_take (i := 4) (v := ?_) rfl (by kernel_rfl) (by kernel_rfl) (by kernel_rfl) (fun _ _ _ h => h) (Or.inl ⟨by rfl, ?_⟩) (by assumption) ?_
                     rotate_left
                     focus (intro wq hSq; (try dsimp only at hSq); go_simp; (try (with_reducible rfl)); done))
                  | (refine wpAnyH_take (i := 4) (v := undef) rfl (by kernel_rfl) (by kernel_rfl) (by kernel_rfl) (fun _ _ _ h => h) (Or.inr ⟨by rfl, rfl⟩) (by assumption) ?_)
                  | fail "take 4")
                try simp only [Act.put, List.setIfInBounds_toArray, List.set_cons_zero, List.set_cons_succ, List.getElem_toArray, List.getElem_cons_zero, List.getElem_cons_succ]
                (first
                  | (refine wpAnyH_take (i := 5) (v := ?_) rfl (by kernel_rfl) (by kernel_rfl) (by kernel_rfl) (fun _ _ _ h => h) (Or.inl ⟨by rfl, ?_⟩) (by assumption) ?_
                     rotate_left
                     focus (intro wq hSq; (try dsimp only at hSq); go_simp; (try (with_reducible rfl)); done))
                  | (refine wpAnyH_take (i := 5) (v := undef) rfl (by kernel_rfl) (by kernel_rfl) (by kernel_rfl) (fun _ _ _ h => h) (Or.inr ⟨by rfl, rfl⟩) (by assumption) ?_)
                  | fail "take 5")
                try simp only [Act.put, List.setIfInBounds_toArray, List.set_cons_zero, List.set_cons_succ, List.getElem_toArray, List.getElem_cons_zero, List.getElem_cons_succ]
                refine wpAnyH_ready (rs := [6]) (by kernel_rfl) (by simp) ?_
                refine AllReadyH.cons (o := _) rfl (fun K hK => ?_) AllReadyH.nil
                go_simp
                refine (specObserve_c z.A z.n z.c z.x _ ((hzo5.next hbw).next (Below.refl _ _).drew).sl hzo.hn hzo.hl hzo.hs (oneC z.x.cs) 0 (m : Int)).mono ?_; intro e w6 hpost; rw [Hobs1.out] at hpost; obtain ⟨v6, rfl, hoO, hb6⟩ := hpost; have hb16 := (Below.refl wr.heap.size wr).drew.trans hb6
                refine hK.out _ _ ?_ (fun hHeld => ?_)
                · exact e1 hb16
                clear hK K
                dsimp only at hoO ⊢
                (first
                  | (refine wpAnyH_take (i := 7) (v := ?_) rfl (by kernel_rfl) (by kernel_rfl) (by kernel_rfl) (fun _ _ _ h => h) (Or.inl ⟨by rfl, ?_⟩) (by assumption) ?_
                     rotate_left
                     focus (intro wq hSq; (try dsimp only at hSq); go_simp; (try (with_reducible rfl)); done))
                  | (refine wpAnyH_take (i := 7) (v := undef) rfl (by kernel_rfl) (by kernel_rfl) (by kernel_rfl) (fun _ _ _ h => h) (Or.inr ⟨by rfl, rfl⟩) (by assumption) ?_)
                  | fail "take 7")
                try simp only [Act.put, List.setIfInBounds_toArray, List.set_cons_zero, List.set_cons_succ, List.getElem_toArray, List.getElem_cons_zero, List.getElem_cons_succ]
                (first
                  | (refine wpAnyH_take (i := 8) (v := ?_) rfl (by kernel_rfl) (by kernel_rfl) (by kernel_rfl) (fun _ _ _ h => h) (Or.inl ⟨by rfl, ?_⟩) (by assumption) ?_
                     rotate_left
                     focus (intro wq hSq; (try dsimp only at hSq); go_simp; (try (with_reducible rfl)); done))
                  | (refine wpAnyH_take (i := 8) (v := undef) rfl (by kernel_rfl) (by kernel_rfl) (by kernel_rfl) (fun _ _ _ h => h) (Or.inr ⟨by rfl, rfl⟩) (by assumption) ?_)
                  | fail "take 8")
                try simp only [Act.put, List.setIfInBounds_toArray, List.set_cons_zero, List.set_cons_succ, List.getElem_toArray, List.getElem_cons_zero, List.getElem_cons_succ]
                (first
                  | (refine wpAnyH_take (i := 9) (v := ?_) rfl (by kernel_rfl) (by kernel_rfl) (by kernel_rfl) (fun _ _ _ h => h) (Or.inl ⟨by rfl, ?_⟩) (by assumption) ?_
                     rotate_left
                     focus (intro wq hSq; (try dsimp only at hSq); go_simp; (try (with_reducible rfl)); done))
                  | (refine wpAnyH_take (i := 9) (v := undef) rfl (by kernel_rfl) (by kernel_rfl) (by kernel_rfl) (fun _ _ _ h => h) (Or.inr ⟨by rfl, rfl⟩) (by assumption) ?_)
                  | fail "take 9")
                try simp only [Act.put, List.setIfInBounds_toArray, List.set_cons_zero, List.set_cons_succ, List.getElem_toArray, List.getElem_cons_zero, List.getElem_cons_succ]
                (first
                  | (refine wpAnyH_take (i := 10) (v := ?_) rfl (by kernel_rfl) (by kernel_rfl) (by kernel_rfl) (fun _ _ _ h => h) (Or.inl ⟨by rfl, ?_⟩) (by assumption) ?_
                     rotate_left
                     focus (intro wq hSq; (try dsimp only at hSq); go_simp; (try (with_reducible rfl)); done))
                  | (refine wpAnyH_take (i := 10) (v := undef) rfl (by kernel_rfl) (by kernel_rfl) (by kernel_rfl) (fun _ _ _ h => h) (Or.inr ⟨by rfl, rfl⟩) (by assumption) ?_)
                  | fail "take 10")
                try simp only [Act.put, List.setIfInBounds_toArray, List.set_cons_zero, List.set_cons_succ, List.getElem_toArray, List.getElem_cons_zero, List.getElem_cons_succ]
                (first
                  | (refine wpAnyH_take (i := 11) (v := ?_) rfl (by kernel_rfl) (by kernel_rfl) (by kernel_rfl) (fun _ _ _ h => h) (Or.inl ⟨by rfl, ?_⟩) (by assumption) ?_
                     rotate_left
                     focus (intro wq hSq; (try dsimp only at hSq); go_simp; (try (with_reducible rfl)); done))
                  | (refine wpAnyH_take (i := 11) (v := undef) rfl (by kernel_rfl) (by kernel_rfl) (by kernel_rfl) (fun _ _ _ h => h) (Or.inr ⟨by rfl, rfl⟩) (by assumption) ?_)
                  | fail "take 11")
                try simp only [Act.put, List.setIfInBounds_toArray, List.set_cons_zero, List.set_cons_succ, List.getElem_toArray, List.getElem_cons_zero, List.getElem_cons_succ]
                refine wpAnyH_done (by kernel_rfl) ?_ _
                have hb6s := hb16
                rw [show O.length = m from Hol.out] at hoO
                obtain ⟨AO, cO, rfl⟩ := own_slice hoO
                have hbw6 := hbw.trans (hb16.mono hbw.size)
                have H7 := H6.trans (hb16.mono H6.size)
                have hS7 := (hS5.next hbw).next hb16
                clear hHeld e1 hb6 hb6s
                go_wp2_with fail
                refine (implIdent_c (some ⟨b, off, none⟩) N cz zs AO m cO O tol _ hS7 (by omega) (Sl.of_own hoO) (by omega) Hszs.out).mono ?_
                rintro e w7 ⟨v7, rfl, hid, hb7⟩
                rw [IdAns, HA.out] at hid
                rw [HA.out]
                obtain ⟨hid0, _⟩ | ⟨_, hov⟩ := hid
                · exact absurd rfl hid0
                obtain ⟨A7, c7, rfl⟩ := own_slice hov
                have hbw7 := hbw6.trans (hb7.mono hbw6.size)
                have hmm := Hmm.out
                have hif := Hif.out
                have hhl2 : (hitsL zs O tol).length ≤ N := by have := Hhl.out; rw [hitsL, HN.out]; exact this
                generalize hitsL zs O tol = LL at *
                generalize hLn : LL.length = Ln at *
                have hmm2 : (k : Int) ∈ LL.map fun (i : Nat) => (i : Int) := List.mem_map_of_mem (f := fun (i : Nat) => (i : Int)) hmm
                have HLn := Lib.hid hLn; clear hLn
                have Hmm2 := Lib.hid hmm; clear hmm
                have Hmm3 := Lib.hid hmm2; clear hmm2
                have Hif2 := Lib.hid hif; clear hif
                go_wp2_with fail
                refine (r8Has_c A7 Ln c7 _ _ (k : Int) _ (Sl.of_own hov) Hmm3.out (by omega)).mono ?_
                rintro e w8 ⟨rfl, rfl⟩
                have hif2 := Hif2.out
                by_cases hjm : j + 1 ≤ m
                · rw [decide_eq_true hjm, decide_eq_true_eq] at hif2
                  subst hif2
                  have hji1 : (j : Int) + 1 ≤ (m : Int) := by omega
                  have hji2 : (1 : Int) ≤ (m : Int) := by omega
                  go_wp2_with fail
                  go_roundw
                  case rel => exact ⟨m + 1, by go_num, by omega, by omega, hbw7⟩
                  case measure => simp [intOf]; omega
                · first
                  | (exfalso; omega)
                  | (rw [decide_eq_false hjm, decide_eq_false_iff_not] at hif2
                     have hx1 : ((Ln : Int) == 1) = false := by simpa using (show ¬ (Ln : Int) = 1 by omega)
                     have Hif3 := Lib.hid hif2; clear hif2
                     have hji1 : ¬ (j : Int) + 1 ≤ (m : Int) := by omega
                     have hji2 : (m : Int) < (j : Int) + 1 := by omega
                     go_wp2_with fail
                     go_roundw
                     case rel => exact ⟨m + 1, by go_num, by omega, by omega, hbw7⟩
                     case measure => simp [intOf]; omega)
            · go_wp2_with fail
              go_ret
              exact ⟨rfl, H6⟩
          · go_wp2_with fail
            go_ret
            exact ⟨rfl, H6⟩
    · have hV : pnV zs k tol = 0 := by simp [pnV, hC, hI, decide_eq_false hq0]
      have hK : pnK zs k tol = 3 := by simp [pnK, hC, hI, decide_eq_false hq0]
      have HC := Lib.hid hC; clear hC
      have HI := Lib.hid hI; clear hI
      have Hq := Lib.hid hq; clear hq
      have HV := Lib.hid hV; clear hV
      have HK := Lib.hid hK; clear hK
      go_wp2_with fail
      refine (implNeed_c (some ⟨b, off, none⟩) N cz zs (k : Int) tol _ hS (by omega)).mono ?_
      rintro e w4 ⟨rfl, hb4⟩
      rw [HV.out, HK.out]
      go_wp2_with fail
      go_ret
      exact ⟨rfl, hb2.trans (hb4.mono hb2.size)⟩
  · go_enter Try.func11, Try.ntmps11
    have hlong := r8Long_c A A' n c n' c' w
    rw [hbig] at hlong
    have Hlong := Lib.hid hlong; clear hlong
    clear hbig
    go_wp2_with fail
    refine Hlong.out.mono ?_
    rintro e w1 ⟨rfl, rfl⟩
    go_wp2_with fail
    go_ret
    exact ⟨rfl, Below.refl _ _⟩
end Go.Proofs.Ytgfplmfdgbklkaa
