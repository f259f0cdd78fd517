/- The walk of the law FnIdentify. -/
import Derived.Test.YtgfplmfdgbklkaaLtDr
import Derived.Test.YtgfplmfdgbklkaaSrcG
import Derived.Test.YtgfplmfdgbklkaaLtSeen
import Derived.Test.YtgfplmfdgbklkaaLtLikeW
import Derived.Test.YtgfplmfdgbklkaaChObs2
import Derived.Test.YtgfplmfdgbklkaaChOf
namespace Go.Proofs.Ytgfplmfdgbklkaa
open Go.RowKit
theorem obs_seeS {x : Ch} {co : ByteArray} {st m : Nat} (hv : validB x = true) (h3 : colB co = true) (h4 : hasC x.cs co = true) (hs : startB (phasesL x co) (st : Int) = true) (h1 : 1 ≤ m) (h24 : m ≤ 24) (hk : x.k = 1 → m = 1) : obsR x co st m = (seeL (phasesL x co) st m, 0) := by
  have h2 : inB (m : Int) 1 24 = true := inB_iff.2 (by omega)
  have h5 : (!startB (phasesL x co) (st : Int) || (x.k == 1 && decide (1 < (m : Int)))) = false := by
    rw [hs]
    by_cases hk1 : x.k = 1
    · rw [hk hk1]; simp
    · have : (x.k == 1) = false := by simpa using hk1
      rw [this]; rfl
  rw [obsR, if_neg (by rw [hv]; simp), if_neg (by rw [h2]; simp), if_neg (by rw [h3, h4]; simp), if_neg (by rw [h5]; simp), Int.toNat_natCast]
theorem phOf_ok {x : Ch} {co : ByteArray} (hv : validB x = true) (h3 : colB co = true) (h4 : hasC x.cs co = true) : phOf x co = (phasesL x co, 0) := by
  rw [phOf, if_neg (by rw [hv]; simp), if_neg (by rw [h3, h4]; simp)]
theorem ask_zero {zs : List ChG} {o : List Ph} {tol : Int} (h1 : lightsB zs = true) (h2 : obsB o = true) (h3 : inB tol 0 100 = true) : askI zs o tol = 0 := by rw [askI, h1, h2, h3]; rfl
theorem lights_of {zs : List ChG} (h : ∀ z ∈ zs, validB z.x = true) (hl : zs.length ≤ 64) : lightsB zs = true := by rw [lightsB, all_true h, decide_eq_true hl]; rfl
theorem valid_sizes {zs : List ChG} (h : ∀ z ∈ zs, validB z.x = true) : ∀ z ∈ zs, z.n ≤ 1048576 ∧ z.x.l.size ≤ 1048576 ∧ z.x.cs.size ≤ 1048576 := fun z hz => by
  have := shape_sizes (valid_shape (h z hz))
  exact ⟨by show z.x.gs.length ≤ 1048576; omega, by omega, by omega⟩
theorem near_size {o O : List Ph} {tol : Int} (h : Near o O tol) (hz : ∀ p ∈ o, p.c.size ≤ 1) : ∀ p ∈ O, p.c.size ≤ maxLen := fun q hq => by
  obtain ⟨i, hi⟩ := List.mem_iff_getElem?.1 hq
  have hil := (List.getElem?_eq_some_iff.1 hi).1
  rw [h.len] at hil
  obtain ⟨p, q', hp, hq', hc, _⟩ := h.both hil
  rw [hi] at hq'; injection hq' with hq'; subst hq'
  rw [hc]
  exact Nat.le_trans (hz p (List.mem_of_getElem? hp)) (by decide)
theorem see_size1 {x : Ch} {co : ByteArray} {start : Int} (hv : validB x = true) (hco : colB co = true) (hs : startB (phasesL x co) start = true) {n : Nat} (hn : x.k = 1 → n = 1) : ∀ p ∈ seeL (phasesL x co) start n, p.c.size ≤ 1 := by
  intro p hp
  obtain ⟨i, hi⟩ := List.mem_iff_getElem?.1 hp
  rw [see_col hv (colB_E2 hco) hs hn hi]
  cases decide (i % 2 = 1)
  · show co.size ≤ 1
    rw [colB_size hco]; decide
  · show (⟨#[]⟩ : ByteArray).size ≤ 1
    exact Nat.zero_le _
set_option maxRecDepth 100000 in
set_option maxHeartbeats 4000000 in
theorem lawIdentify_c (A : Option Addr) (n c : Nat) (bs : List Int) (A' : Option Addr) (n' c' : Nat) (bs' : List Int) (w : World) (hx : Sl w w.heap.size 1 A n (bs.flatMap u8C)) (hb : ∀ x ∈ bs, 0 ≤ x ∧ x ≤ 255) (hn : n ≤ maxLen)
    (hx' : Sl w w.heap.size 1 A' n' (bs'.flatMap u8C)) (hb' : ∀ x ∈ bs', 0 ≤ x ∧ x ≤ 255) :
    Calls Try.prog 12 #[.slice A n c, .slice A' n' c'] w fun e w' => e = .returned (.bool true) ∧ Below w.heap.size w w' := by
  have Hb := Lib.hid hb; clear hb
  have Hb' := Lib.hid hb'; clear hb'
  cases hbig : (decide (1048576 < n) || decide (1048576 < n'))
  · simp only [Bool.or_eq_false_iff, decide_eq_false_iff_not] at hbig
    obtain ⟨hn1, hn2⟩ := hbig
    have hlong := r8Long_c A A' n c n' c' w
    rw [decide_eq_false hn1, decide_eq_false hn2] at hlong
    have Hlong := Lib.hid hlong; clear hlong
    go_enter Try.func12, Try.ntmps12
    go_wp2_with fail
    refine Hlong.out.mono ?_
    rintro e w1 ⟨rfl, rfl⟩
    go_wp2_with fail
    refine (r8Lights_c A n c bs _ hx Hb.out hn).mono ?_
    rintro e w2 ⟨v, zs, rfl, hl1, hl5, hown, hval, hb2⟩
    obtain ⟨Az, cz, rfl⟩ := own_slice hown.own
    have hS := hown.sl (valid_sizes hval)
    have hlt := lights_of hval (show zs.length ≤ 64 by omega)
    obtain ⟨N, hN⟩ : ∃ N, zs.length = N := ⟨_, rfl⟩
    rw [hN] at hl1 hl5 hS ⊢
    have HN := Lib.hid hN; clear hN
    have Hval := Lib.hid hval; clear hval
    clear hown
    have hx2 := hx'.below hb2
    go_wp2_with fail
    refine (r8At_c A' n' c' _ bs' 0 (N : Int) _ hx2 Hb'.out (by omega) (by omega)).mono ?_
    rintro e w3 ⟨k0, rfl, k0a, k0b, _, rfl⟩
    obtain ⟨k, rfl⟩ := Int.eq_ofNat_of_zero_le k0a
    have hk : k < N := by omega
    obtain ⟨b, off, z, rfl, hbz, hz, hzo, c0, c1, c2, c3, c4⟩ := hS.get k hk
    have hv := Hval.out z (List.mem_of_getElem? hz)
    obtain ⟨hc1, hc3⟩ := colors_one hv
    have hc1' : (1 : Int) ≤ (z.x.cs.size : Int) := by omega
    have hcol := oneC_col hv
    have hhas : hasC z.x.cs (oneC z.x.cs) = true := hasC_ext z.x.cs (i := 0) (by omega)
    have hph := phOf_ok hv hcol hhas
    have hpl := phases_len (co := oneC z.x.cs) (valid_shape hv)
    have hpc40 := phases_len40 (co := oneC z.x.cs) (valid_shape hv)
    have Hcol := Lib.hid hcol; clear hcol
    have Hhas := Lib.hid hhas; clear hhas
    have Hph := Lib.hid hph; clear hph
    have Hz := Lib.hid hz; clear hz
    have Hlt := Lib.hid hlt; clear hlt
    have j0 : (0 : Int) ≤ (k : Int) := by omega
    have j1 : (k : Int) < (N : Int) := by omega
    clear k0a k0b
    go_wp2_with fail
    have hbX : Below w2.heap.size w2 (w2.alloc (.cells #[.int .i64 z.x.k, .slice z.A z.n z.c, .string z.x.l, .string z.x.cs, .int .i64 z.x.p] 30)) := by (repeat (first | (with_reducible assumption) | (with_reducible exact Below.refl _ _) | exact Nat.le_refl _ | exact Below.size (by with_reducible assumption) | (with_reducible refine Below.drew ?_) | (with_reducible refine below_drewN ?_ _) | (with_reducible refine Below.alloc ?_ ?_ _) | (with_reducible refine Below.setCell ?_ ?_ _) | (with_reducible refine le_alloc ?_ _) | (with_reducible refine le_set ?_ _ _) | (with_reducible refine le_drew ?_) | (with_reducible refine le_drewN ?_ _) | omega | (dsimp only; omega)))
    have hzX : w2.heap.size < (w2.alloc (.cells #[.int .i64 z.x.k, .slice z.A z.n z.c, .string z.x.l, .string z.x.cs, .int .i64 z.x.p] 30)).heap.size := by simp
    obtain ⟨d0, d1, d2, d3, d4, _, _, _, _, _⟩ := chp_box (c := z.c) 30 hzo.sl hzo.hn hzo.hl hzo.hs
    simp only [Nat.zero_add] at d0 d1 d2 d3 d4
    generalize w2.alloc (.cells #[.int .i64 z.x.k, .slice z.A z.n z.c, .string z.x.l, .string z.x.cs, .int .i64 z.x.p] 30) = w3 at *
    have H3 := hb2.trans (hbX.mono hb2.size)
    have hS3 := hS.next hbX
    have hzo3 := hzo.next hbX
    have e1 : ∀ {w' : World}, Below w3.heap.size w3 w' → (Below w3.heap.size w3 w' ∧ (∀ x, w'.cell? ⟨w2.heap.size, x, none⟩ = w3.cell? ⟨w2.heap.size, x, none⟩)) := fun hb => ⟨hb, keepC hb _ hzX⟩
    refine wp_region_held_drew (S := fun w' => Below w3.heap.size w3 w' ∧ (∀ x, w'.cell? ⟨w2.heap.size, x, none⟩ = w3.cell? ⟨w2.heap.size, x, none⟩)) (by kernel_rfl) (e1 (Below.refl _ _).drew) (fun hHeld => ?_)
    (first
      | (refine wpAnyH_take (i := 0) (v := ?_) rfl (by kernel_rfl) (by kernel_rfl) (by kernel_rfl) (fun _ _ _ h => h) (Or.inl ⟨by rfl, ?_⟩) (by assumption) ?_
         rotate_left
         focus (intro wq hSq; (try dsimp only at hSq); go_simp; (try (with_reducible rfl)); done))
      | (refine wpAnyH_take (i := 0) (v := undef) rfl (by kernel_rfl) (by kernel_rfl) (by kernel_rfl) (fun _ _ _ h => h) (Or.inr ⟨by rfl, rfl⟩) (by assumption) ?_)
      | fail "take 0")
    try simp only [Act.put, List.setIfInBounds_toArray, List.set_cons_zero, List.set_cons_succ, List.getElem_toArray, List.getElem_cons_zero]
    (first
      | (refine wpAnyH_take (i := 1) (v := ?_) rfl (by kernel_rfl) (by kernel_rfl) (by kernel_rfl) (fun _ _ _ h => h) (Or.inl ⟨by rfl, ?_⟩) (by assumption) ?_
         rotate_left
         focus (intro wq hSq; (try dsimp only at hSq); go_simp; (try (with_reducible rfl)); done))
      | (refine wpAnyH_take (i := 1) (v := undef) rfl (by kernel_rfl) (by kernel_rfl) (by kernel_rfl) (fun _ _ _ h => h) (Or.inr ⟨by rfl, rfl⟩) (by assumption) ?_)
      | fail "take 1")
    try simp only [Act.put, List.setIfInBounds_toArray, List.set_cons_zero, List.set_cons_succ, List.getElem_toArray, List.getElem_cons_zero, List.getElem_cons_succ]
    (first
      | (refine wpAnyH_take (i := 2) (v := ?_) rfl (by kernel_rfl) (by kernel_rfl) (by kernel_rfl) (fun _ _ _ h => h) (Or.inl ⟨by rfl, ?_⟩) (by assumption) ?_
         rotate_left
         focus (intro wq hSq; (try dsimp only at hSq); go_simp; (try (with_reducible rfl)); done))
      | (refine wpAnyH_take (i := 2) (v := undef) rfl (by kernel_rfl) (by kernel_rfl) (by kernel_rfl) (fun _ _ _ h => h) (Or.inr ⟨by rfl, rfl⟩) (by assumption) ?_)
      | fail "take 2")
    try simp only [Act.put, List.setIfInBounds_toArray, List.set_cons_zero, List.set_cons_succ, List.getElem_toArray, List.getElem_cons_zero, List.getElem_cons_succ]
    (first
      | (refine wpAnyH_take (i := 3) (v := ?_) rfl (by kernel_rfl) (by kernel_rfl) (by kernel_rfl) (fun _ _ _ h => h) (Or.inl ⟨by rfl, ?_⟩) (by assumption) ?_
         rotate_left
         focus (intro wq hSq; (try dsimp only at hSq); go_simp; (try (with_reducible rfl)); done))
      | (refine wpAnyH_take (i := 3) (v := undef) rfl (by kernel_rfl) (by kernel_rfl) (by kernel_rfl) (fun _ _ _ h => h) (Or.inr ⟨by rfl, rfl⟩) (by assumption) ?_)
      | fail "take 3")
    try simp only [Act.put, List.setIfInBounds_toArray, List.set_cons_zero, List.set_cons_succ, List.getElem_toArray, List.getElem_cons_zero, List.getElem_cons_succ]
    refine wpAnyH_ready (rs := [4]) (by kernel_rfl) (by simp) ?_
    refine AllReadyH.cons (o := _) rfl (fun K hK => ?_) AllReadyH.nil
    go_simp
    refine (specPhasesOf_c z.A z.n z.c z.x _ (hzo3.next (Below.refl _ _).drew).sl hzo.hn hzo.hl hzo.hs (oneC z.x.cs)).mono ?_; intro e w4 hpost; rw [Hph.out] at hpost; obtain ⟨v4, rfl, hoP, hb4⟩ := hpost; have hb34 := (Below.refl w3.heap.size w3).drew.trans hb4
    refine hK.out _ _ ?_ (fun hHeld => ?_)
    · exact e1 hb34
    clear hK K
    dsimp only at hoP ⊢
    (first
      | (refine wpAnyH_take (i := 5) (v := ?_) rfl (by kernel_rfl) (by kernel_rfl) (by kernel_rfl) (fun _ _ _ h => h) (Or.inl ⟨by rfl, ?_⟩) (by assumption) ?_
         rotate_left
         focus (intro wq hSq; (try dsimp only at hSq); go_simp; (try (with_reducible rfl)); done))
      | (refine wpAnyH_take (i := 5) (v := undef) rfl (by kernel_rfl) (by kernel_rfl) (by kernel_rfl) (fun _ _ _ h => h) (Or.inr ⟨by rfl, rfl⟩) (by assumption) ?_)
      | fail "take 5")
    try simp only [Act.put, List.setIfInBounds_toArray, List.set_cons_zero, List.set_cons_succ, List.getElem_toArray, List.getElem_cons_zero, List.getElem_cons_succ]
    (first
      | (refine wpAnyH_take (i := 6) (v := ?_) rfl (by kernel_rfl) (by kernel_rfl) (by kernel_rfl) (fun _ _ _ h => h) (Or.inl ⟨by rfl, ?_⟩) (by assumption) ?_
         rotate_left
         focus (intro wq hSq; (try dsimp only at hSq); go_simp; (try (with_reducible rfl)); done))
      | (refine wpAnyH_take (i := 6) (v := undef) rfl (by kernel_rfl) (by kernel_rfl) (by kernel_rfl) (fun _ _ _ h => h) (Or.inr ⟨by rfl, rfl⟩) (by assumption) ?_)
      | fail "take 6")
    try simp only [Act.put, List.setIfInBounds_toArray, List.set_cons_zero, List.set_cons_succ, List.getElem_toArray, List.getElem_cons_zero, List.getElem_cons_succ]
    (first
      | (refine wpAnyH_take (i := 7) (v := ?_) rfl (by kernel_rfl) (by kernel_rfl) (by kernel_rfl) (fun _ _ _ h => h) (Or.inl ⟨by rfl, ?_⟩) (by assumption) ?_
         rotate_left
         focus (intro wq hSq; (try dsimp only at hSq); go_simp; (try (with_reducible rfl)); done))
      | (refine wpAnyH_take (i := 7) (v := undef) rfl (by kernel_rfl) (by kernel_rfl) (by kernel_rfl) (fun _ _ _ h => h) (Or.inr ⟨by rfl, rfl⟩) (by assumption) ?_)
      | fail "take 7")
    try simp only [Act.put, List.setIfInBounds_toArray, List.set_cons_zero, List.set_cons_succ, List.getElem_toArray, List.getElem_cons_zero, List.getElem_cons_succ]
    (first
      | (refine wpAnyH_take (i := 8) (v := ?_) rfl (by kernel_rfl) (by kernel_rfl) (by kernel_rfl) (fun _ _ _ h => h) (Or.inl ⟨by rfl, ?_⟩) (by assumption) ?_
         rotate_left
         focus (intro wq hSq; (try dsimp only at hSq); go_simp; (try (with_reducible rfl)); done))
      | (refine wpAnyH_take (i := 8) (v := undef) rfl (by kernel_rfl) (by kernel_rfl) (by kernel_rfl) (fun _ _ _ h => h) (Or.inr ⟨by rfl, rfl⟩) (by assumption) ?_)
      | fail "take 8")
    try simp only [Act.put, List.setIfInBounds_toArray, List.set_cons_zero, List.set_cons_succ, List.getElem_toArray, List.getElem_cons_zero, List.getElem_cons_succ]
    (first
      | (refine wpAnyH_take (i := 9) (v := ?_) rfl (by kernel_rfl) (by kernel_rfl) (by kernel_rfl) (fun _ _ _ h => h) (Or.inl ⟨by rfl, ?_⟩) (by assumption) ?_
         rotate_left
         focus (intro wq hSq; (try dsimp only at hSq); go_simp; (try (with_reducible rfl)); done))
      | (refine wpAnyH_take (i := 9) (v := undef) rfl (by kernel_rfl) (by kernel_rfl) (by kernel_rfl) (fun _ _ _ h => h) (Or.inr ⟨by rfl, rfl⟩) (by assumption) ?_)
      | fail "take 9")
    try simp only [Act.put, List.setIfInBounds_toArray, List.set_cons_zero, List.set_cons_succ, List.getElem_toArray, List.getElem_cons_zero, List.getElem_cons_succ]
    refine wpAnyH_done (by kernel_rfl) ?_ _
    obtain ⟨AP, cP, rfl⟩ := own_slice hoP
    have sP := Sl.of_own hoP
    have H4 := H3.trans (hb34.mono H3.size)
    obtain ⟨P, hP⟩ : ∃ P, (phasesL z.x (oneC z.x.cs)).length = P := ⟨_, rfl⟩
    rw [hP] at sP hpl hpc40 ⊢
    have HP := Lib.hid hP; clear hP
    clear hoP e1 hHeld hb4
    have hx4 := (hx2.below (hbX.mono hb2.size)).below (hb34.mono H3.size)
    go_wp2_with fail
    refine (r8At_c A' n' c' _ bs' 1 (P : Int) _ hx4 Hb'.out (by omega) (by omega)).mono ?_
    rintro e w5 ⟨s0, rfl, s0a, s0b, _, rfl⟩
    obtain ⟨s, rfl⟩ := Int.eq_ofNat_of_zero_le s0a
    have hs : s < P := by omega
    obtain ⟨bp, offp, p, rfl, hbp, hp, x1, x2⟩ := sP.ph s hs
    have js0 : (0 : Int) ≤ (s : Int) := by omega
    have js1 : (s : Int) < (P : Int) := by omega
    have hpe : p.c.toList.isEmpty = !startB (phasesL z.x (oneC z.x.cs)) (s : Int) := by
      rw [startB, Int.toNat_natCast, hp]; simp
    have hfix := start_fix (s := s) hv (colB_E2 Hcol.out) (by rw [HP.out]; exact hs)
    rw [HP.out] at hfix
    have Hfix := Lib.hid hfix; clear hfix
    have Hp := Lib.hid hp; clear hp
    have Hpe := Lib.hid hpe; clear hpe
    clear s0a s0b
    go_upto_if 57 with fail
    go_cut [10] (fun sv wx => ∃ st : Nat, sv = .int .i64 st ∧ st < P ∧ startB (phasesL z.x (oneC z.x.cs)) (st : Int) = true ∧ wx = w4)
    case first =>
      cases hB : startB (phasesL z.x (oneC z.x.cs)) (s : Int)
      · have hp0 : p.c.toList.isEmpty = true := by rw [Hpe.out, hB]; rfl
        have hst := Hfix.out hB
        have Hst := Lib.hid hst; clear hst
        have HB := Lib.hid hB; clear hB
        go_wp2_with fail
        · go_meet
          exact ⟨(s + 1) % P, int_eq (by rw [Int.natCast_emod, Int.natCast_add]; rfl), Nat.mod_lt _ (by omega), Hst.out, rfl⟩
        · exact absurd (hp0.symm.trans (by assumption)) (by decide)
      · have hp0 : p.c.toList.isEmpty = false := by rw [Hpe.out, hB]; rfl
        have HB := Lib.hid hB; clear hB
        go_wp2_with fail
        · exact absurd (hp0.symm.trans (by assumption)) (by decide)
        · go_meet
          exact ⟨s, rfl, hs, HB.out, rfl⟩
    case rest =>
    obtain ⟨st, rfl, hst1, hst2, rfl⟩ := hcut
    go_wp2_with fail
    refine (r8At_c A' n' c' _ bs' 2 8 _ hx4 Hb'.out (by omega) (by omega)).mono ?_
    rintro e w5 ⟨m0, rfl, m0a, m0b, _, rfl⟩
    obtain ⟨m0, rfl⟩ := Int.eq_ofNat_of_zero_le m0a
    have hm0 : m0 ≤ 7 := by omega
    have q4 := keepC hb34 w2.heap.size hzX
    clear m0a m0b
    go_upto_if 68 with fail
    go_cut [11] (fun mv wx => ∃ m : Nat, mv = .int .i64 m ∧ 1 ≤ m ∧ m ≤ 8 ∧ (z.x.k = 1 → m = 1) ∧ wx = wc)
    case first =>
      by_cases hk1 : z.x.k = 1
      · have hk2 : (z.x.k == 1) = true := by simpa using hk1
        have Hk1 := Lib.hid hk1; clear hk1
        go_wp2_with fail
        go_meet
        exact ⟨1, rfl, Nat.le_refl _, by omega, fun _ => rfl, rfl⟩
      · have hk2 : (z.x.k == 1) = false := by simpa using hk1
        have Hk1 := Lib.hid hk1; clear hk1
        go_wp2_with fail
        go_meet
        exact ⟨m0 + 1, int_eq (by omega), by omega, by omega, fun h => absurd h Hk1.out, rfl⟩
    case rest =>
    obtain ⟨m, rfl, hm1, hm8, hmk, rfl⟩ := hcut
    have hobs := obs_seeS hv Hcol.out Hhas.out hst2 hm1 (show m ≤ 24 by omega) hmk
    have hob := see_obs hv Hcol.out hst2 hmk hm1 (show m ≤ 24 by omega)
    have hsz1 := see_size1 hv Hcol.out hst2 hmk
    have hlens : ∀ q ∈ seeL (phasesL z.x (oneC z.x.cs)) (st : Int) m, 1 ≤ q.len ∧ q.len ≤ 600 := fun q hq => by
      obtain ⟨i, hi⟩ := List.mem_iff_getElem?.1 hq
      exact see_len hv hi
    have hfrom := from_self (tol := 0) hv Hcol.out Hhas.out hst2 hmk hm1 (Int.le_refl 0)
    have hmatch : matchV z.x (seeL (phasesL z.x (oneC z.x.cs)) (st : Int) m) (st : Int) 0 = true := by rw [matchV, hv, hob, hfrom]; decide
    have hol := seeL_len (phasesL z.x (oneC z.x.cs)) (st : Int) m
    have Hobs := Lib.hid hobs; clear hobs
    have Hob := Lib.hid hob; clear hob
    have Hsz1 := Lib.hid hsz1; clear hsz1
    have Hlens := Lib.hid hlens; clear hlens
    have Hfrom := Lib.hid hfrom; clear hfrom
    have Hmatch := Lib.hid hmatch; clear hmatch
    have Hst2 := Lib.hid hst2; clear hst2
    have Hmk := Lib.hid hmk; clear hmk
    have Hol := Lib.hid hol; clear hol
    have z4 : w2.heap.size < wc.heap.size := Nat.lt_of_lt_of_le hzX hb34.size
    have hS4 := hS3.next hb34
    have hzo4 := hzo3.next hb34
    go_wp2_with fail
    have e1 : ∀ {w' : World}, Below wc.heap.size wc w' → (Below wc.heap.size wc w' ∧ (∀ x, w'.cell? ⟨w2.heap.size, x, none⟩ = wc.cell? ⟨w2.heap.size, x, none⟩)) := fun hb => ⟨hb, keepC hb _ z4⟩
    refine wp_region_held_drew (S := fun w' => Below wc.heap.size wc w' ∧ (∀ x, w'.cell? ⟨w2.heap.size, x, none⟩ = wc.cell? ⟨w2.heap.size, x, none⟩)) (by kernel_rfl) (e1 (Below.refl _ _).drew) (fun hHeld => ?_)
    (first
      | (refine wpAnyH_take (i := 0) (v := ?_) rfl (by kernel_rfl) (by kernel_rfl) (by kernel_rfl) (fun _ _ _ h => h) (Or.inl ⟨by rfl, ?_⟩) (by assumption) ?_
         rotate_left
         focus (intro wq hSq; (try dsimp only at hSq); go_simp; (try (with_reducible rfl)); done))
      | (refine wpAnyH_take (i := 0) (v := undef) rfl (by kernel_rfl) (by kernel_rfl) (by kernel_rfl) (fun _ _ _ h => h) (Or.inr ⟨by rfl, rfl⟩) (by assumption) ?_)
      | fail "take 0")
    try simp only [Act.put, List.setIfInBounds_toArray, List.set_cons_zero, List.set_cons_succ, List.getElem_toArray, List.getElem_cons_zero]
    (first
      | (refine wpAnyH_take (i := 1) (v := ?_) rfl (by kernel_rfl) (by kernel_rfl) (by kernel_rfl) (fun _ _ _ h => h) (Or.inl ⟨by rfl, ?_⟩) (by assumption) ?_
         rotate_left
         focus (intro wq hSq; (try dsimp only at hSq); go_simp; (try (with_reducible rfl)); done))
      | (refine wpAnyH_take (i := 1) (v := undef) rfl (by kernel_rfl) (by kernel_rfl) (by kernel_rfl) (fun _ _ _ h => h) (Or.inr ⟨by rfl, rfl⟩) (by assumption) ?_)
      | fail "take 1")
    try simp only [Act.put, List.setIfInBounds_toArray, List.set_cons_zero, List.set_cons_succ, List.getElem_toArray, List.getElem_cons_zero, List.getElem_cons_succ]
    (first
      | (refine wpAnyH_take (i := 2) (v := ?_) rfl (by kernel_rfl) (by kernel_rfl) (by kernel_rfl) (fun _ _ _ h => h) (Or.inl ⟨by rfl, ?_⟩) (by assumption) ?_
         rotate_left
         focus (intro wq hSq; (try dsimp only at hSq); go_simp; (try (with_reducible rfl)); done))
      | (refine wpAnyH_take (i := 2) (v := undef) rfl (by kernel_rfl) (by kernel_rfl) (by kernel_rfl) (fun _ _ _ h => h) (Or.inr ⟨by rfl, rfl⟩) (by assumption) ?_)
      | fail "take 2")
    try simp only [Act.put, List.setIfInBounds_toArray, List.set_cons_zero, List.set_cons_succ, List.getElem_toArray, List.getElem_cons_zero, List.getElem_cons_succ]
    (first
      | (refine wpAnyH_take (i := 3) (v := ?_) rfl (by kernel_rfl) (by kernel_rfl) (by kernel_rfl) (fun _ _ _ h => h) (Or.inl ⟨by rfl, ?_⟩) (by assumption) ?_
         rotate_left
         focus (intro wq hSq; (try dsimp only at hSq); go_simp; (try (with_reducible rfl)); done))
      | (refine wpAnyH_take (i := 3) (v := undef) rfl (by kernel_rfl) (by kernel_rfl) (by kernel_rfl) (fun _ _ _ h => h) (Or.inr ⟨by rfl, rfl⟩) (by assumption) ?_)
      | fail "take 3")
    try simp only [Act.put, List.setIfInBounds_toArray, List.set_cons_zero, List.set_cons_succ, List.getElem_toArray, List.getElem_cons_zero, List.getElem_cons_succ]
    (first
      | (refine wpAnyH_take (i := 4) (v := ?_) rfl (by kernel_rfl) (by kernel_rfl) (by kernel_rfl) (fun _ _ _ h => h) (Or.inl ⟨by rfl, ?_⟩) (by assumption) ?_
         rotate_left
         focus (intro wq hSq; (try dsimp only at hSq); go_simp; (try (with_reducible rfl)); done))
      | (refine wpAnyH_take (i := 4) (v := undef) rfl (by kernel_rfl) (by kernel_rfl) (by kernel_rfl) (fun _ _ _ h => h) (Or.inr ⟨by rfl, rfl⟩) (by assumption) ?_)
      | fail "take 4")
    try simp only [Act.put, List.setIfInBounds_toArray, List.set_cons_zero, List.set_cons_succ, List.getElem_toArray, List.getElem_cons_zero, List.getElem_cons_succ]
    (first
      | (refine wpAnyH_take (i := 5) (v := ?_) rfl (by kernel_rfl) (by kernel_rfl) (by kernel_rfl) (fun _ _ _ h => h) (Or.inl ⟨by rfl, ?_⟩) (by assumption) ?_
         rotate_left
         focus (intro wq hSq; (try dsimp only at hSq); go_simp; (try (with_reducible rfl)); done))
      | (refine wpAnyH_take (i := 5) (v := undef) rfl (by kernel_rfl) (by kernel_rfl) (by kernel_rfl) (fun _ _ _ h => h) (Or.inr ⟨by rfl, rfl⟩) (by assumption) ?_)
      | fail "take 5")
    try simp only [Act.put, List.setIfInBounds_toArray, List.set_cons_zero, List.set_cons_succ, List.getElem_toArray, List.getElem_cons_zero, List.getElem_cons_succ]
    refine wpAnyH_ready (rs := [6]) (by kernel_rfl) (by simp) ?_
    refine AllReadyH.cons (o := _) rfl (fun K hK => ?_) AllReadyH.nil
    go_simp
    refine (implObserve_c z.A z.n z.c z.x _ (hzo4.next (Below.refl _ _).drew).sl hzo.hn hzo.hl hzo.hs (oneC z.x.cs) (st : Int) (m : Int) (by unfold maxLen; rw [ByteArray.size_extract]; omega)).mono ?_; intro e w6 hpost; rw [Hobs.out] at hpost; obtain ⟨v6, rfl, hoO, hb6⟩ := hpost; have hb46 := (Below.refl wc.heap.size wc).drew.trans hb6
    refine hK.out _ _ ?_ (fun hHeld => ?_)
    · exact e1 hb46
    clear hK K
    dsimp only at hoO ⊢
    (first
      | (refine wpAnyH_take (i := 7) (v := ?_) rfl (by kernel_rfl) (by kernel_rfl) (by kernel_rfl) (fun _ _ _ h => h) (Or.inl ⟨by rfl, ?_⟩) (by assumption) ?_
         rotate_left
         focus (intro wq hSq; (try dsimp only at hSq); go_simp; (try (with_reducible rfl)); done))
      | (refine wpAnyH_take (i := 7) (v := undef) rfl (by kernel_rfl) (by kernel_rfl) (by kernel_rfl) (fun _ _ _ h => h) (Or.inr ⟨by rfl, rfl⟩) (by assumption) ?_)
      | fail "take 7")
    try simp only [Act.put, List.setIfInBounds_toArray, List.set_cons_zero, List.set_cons_succ, List.getElem_toArray, List.getElem_cons_zero, List.getElem_cons_succ]
    (first
      | (refine wpAnyH_take (i := 8) (v := ?_) rfl (by kernel_rfl) (by kernel_rfl) (by kernel_rfl) (fun _ _ _ h => h) (Or.inl ⟨by rfl, ?_⟩) (by assumption) ?_
         rotate_left
         focus (intro wq hSq; (try dsimp only at hSq); go_simp; (try (with_reducible rfl)); done))
      | (refine wpAnyH_take (i := 8) (v := undef) rfl (by kernel_rfl) (by kernel_rfl) (by kernel_rfl) (fun _ _ _ h => h) (Or.inr ⟨by rfl, rfl⟩) (by assumption) ?_)
      | fail "take 8")
    try simp only [Act.put, List.setIfInBounds_toArray, List.set_cons_zero, List.set_cons_succ, List.getElem_toArray, List.getElem_cons_zero, List.getElem_cons_succ]
    (first
      | (refine wpAnyH_take (i := 9) (v := ?_) rfl (by kernel_rfl) (by kernel_rfl) (by kernel_rfl) (fun _ _ _ h => h) (Or.inl ⟨by rfl, ?_⟩) (by assumption) ?_
         rotate_left
         focus (intro wq hSq; (try dsimp only at hSq); go_simp; (try (with_reducible rfl)); done))
      | (refine wpAnyH_take (i := 9) (v := undef) rfl (by kernel_rfl) (by kernel_rfl) (by kernel_rfl) (fun _ _ _ h => h) (Or.inr ⟨by rfl, rfl⟩) (by assumption) ?_)
      | fail "take 9")
    try simp only [Act.put, List.setIfInBounds_toArray, List.set_cons_zero, List.set_cons_succ, List.getElem_toArray, List.getElem_cons_zero, List.getElem_cons_succ]
    (first
      | (refine wpAnyH_take (i := 10) (v := ?_) rfl (by kernel_rfl) (by kernel_rfl) (by kernel_rfl) (fun _ _ _ h => h) (Or.inl ⟨by rfl, ?_⟩) (by assumption) ?_
         rotate_left
         focus (intro wq hSq; (try dsimp only at hSq); go_simp; (try (with_reducible rfl)); done))
      | (refine wpAnyH_take (i := 10) (v := undef) rfl (by kernel_rfl) (by kernel_rfl) (by kernel_rfl) (fun _ _ _ h => h) (Or.inr ⟨by rfl, rfl⟩) (by assumption) ?_)
      | fail "take 10")
    try simp only [Act.put, List.setIfInBounds_toArray, List.set_cons_zero, List.set_cons_succ, List.getElem_toArray, List.getElem_cons_zero, List.getElem_cons_succ]
    (first
      | (refine wpAnyH_take (i := 11) (v := ?_) rfl (by kernel_rfl) (by kernel_rfl) (by kernel_rfl) (fun _ _ _ h => h) (Or.inl ⟨by rfl, ?_⟩) (by assumption) ?_
         rotate_left
         focus (intro wq hSq; (try dsimp only at hSq); go_simp; (try (with_reducible rfl)); done))
      | (refine wpAnyH_take (i := 11) (v := undef) rfl (by kernel_rfl) (by kernel_rfl) (by kernel_rfl) (fun _ _ _ h => h) (Or.inr ⟨by rfl, rfl⟩) (by assumption) ?_)
      | fail "take 11")
    try simp only [Act.put, List.setIfInBounds_toArray, List.set_cons_zero, List.set_cons_succ, List.getElem_toArray, List.getElem_cons_zero, List.getElem_cons_succ]
    refine wpAnyH_done (by kernel_rfl) ?_ _
    rw [Hol.out] at hoO
    obtain ⟨AO, cO, rfl⟩ := own_slice hoO
    have sO := Sl.of_own hoO
    have H6 := H4.trans (hb46.mono H4.size)
    have hb36 := hb34.trans (hb46.mono hb34.size)
    have q6 := keepC hb36 w2.heap.size hzX
    clear q4 e1 hHeld hb6 hoO
    have hx6 := hx4.below (hb46.mono H4.size)
    have hS6 := hS4.next hb46
    have hzo6 := hzo4.next hb46
    go_wp2_with fail
    refine (r8At_c A' n' c' _ bs' 3 6 _ hx6 Hb'.out (by omega) (by omega)).mono ?_
    rintro e w7 ⟨tol, rfl, t0, t1, _, rfl⟩
    have t2 : tol ≤ 5 := by omega
    clear t1
    go_wp2_with fail
    refine (implMatch_c z.A z.n z.c z.x _ hzo6.sl hzo.hn hzo.hl hzo.hs AO m cO _ sO (by omega) (st : Int) 0 (fun q hq => Nat.le_trans (Hsz1.out q hq) (by decide))).mono ?_
    rw [Hmatch.out]
    rintro e w8 ⟨rfl, hb8⟩
    have hx8 := hx6.below (hb8.mono H6.size)
    have H8 := H6.trans (hb8.mono H6.size)
    have hS8 := hS6.next hb8
    have hzo8 := hzo6.next hb8
    have sO8 := sO.next hb8
    have hb38 := hb36.trans (hb8.mono hb36.size)
    have q8 := keepC hb38 w2.heap.size hzX
    clear q6
    obtain ⟨i0, hi, hz0, hz1, hz2⟩ := info_parts phInfo
    have hov := World.ownsRow_made (base := w8.heap.size) (e := 71) (size := 2) w8 #[] 0 (Nat.le_refl _) (by simp [maxLen]) rfl
    have hb9 : Below w8.heap.size w8 (w8.alloc (.cells #[] 71)) := (Below.refl _ _).alloc (Nat.le_refl _) _
    have sO9 := sO8.next hb9
    have e63 : 0 + m ≤ maxLen := by unfold maxLen; omega
    have e32 : (0 + m) * 24 ≤ 140737488355328 := by omega
    have hone := flat_one Ph.cells phC_one (seeL (phasesL z.x (oneC z.x.cs)) (st : Int) m)
    have E63 := Lib.hid e63; clear e63
    have E32 := Lib.hid e32; clear e32
    have Hone := Lib.hid hone; clear hone
    go_wp2_with (at_builtin; refine wpl_append _ rfl (.tmp 96) (.tmp 97) _ rfl w8.heap.size 71 i0 _ 2 24 Try.underlying32 hi hz0 hz1 hz2 rfl (by omega) _ 0 _ rfl hov _ AO m cO _ rfl sO9 Hone.out E63.out E32.out hb9.size ?_; intro v10 w10 ho10 hg10 hat10)
    have hb10 : Below w8.heap.size w8 w10 := hb9.grown hg10 hb9.size fun g hg => (hov.lt g hg).1
    simp only [Nat.zero_add, List.nil_append] at ho10
    obtain ⟨A10, c10, rfl⟩ := own_slice ho10
    obtain ⟨g, rfl, hga, hgb⟩ := own_form ho10 (by omega)
    have ho10' : w10.ownsRow w8.heap.size 71 2 (.slice (some ⟨g, 0, none⟩) m c10) m ((seeL (phasesL z.x (oneC z.x.cs)) (st : Int) m).flatMap Ph.cells) := by simpa using ho10
    have hm8' : (m : Int) ≤ 8 := by omega
    clear ho10 hg10 hat10 hov
    go_loopw [16] (fun i wr => ∃ (t : Nat) (O : List Ph), i = .int .i64 t ∧ t ≤ m ∧ wr.ownsRow w8.heap.size 71 2 (.slice (some ⟨g, 0, none⟩) m c10) m (O.flatMap Ph.cells) ∧ Hid (PNear (seeL (phasesL z.x (oneC z.x.cs)) (st : Int) m) O tol t) ∧ Below w8.heap.size w8 wr) (fun i _ => m - (intOf i).toNat)
    case atStart => exact ⟨0, _, rfl, Nat.zero_le _, ho10', Lib.hid (pnear_zero _ _), hb10⟩
    case round =>
      clear ho10' hb10
      obtain ⟨t, O, rfl, htm, hown, Hpn, hbw⟩ := hrel
      have Hbw := H8.trans (hbw.mono H8.size)
      by_cases hlt : t < m
      · obtain ⟨q, hq⟩ : ∃ q, O[t]? = some q := ⟨_, List.getElem?_eq_getElem (by rw [Hpn.out.len, Hol.out]; exact hlt)⟩
        obtain ⟨p', hp'⟩ : ∃ p', (seeL (phasesL z.x (oneC z.x.cs)) (st : Int) m)[t]? = some p' := ⟨_, List.getElem?_eq_getElem (by rw [Hol.out]; exact hlt)⟩
        obtain ⟨hqc, _, hql⟩ := Hpn.out.at_ t p' q hp' hq
        replace hql := hql (Nat.le_refl _)
        obtain ⟨l1, l2⟩ := Hlens.out p' (List.mem_of_getElem? hp')
        have f1 : wr.drew.cell? ⟨g, t * 2 + 1, none⟩ = some (.int .i64 p'.len) := by
          show wr.cell? ⟨g, t * 2 + 1, none⟩ = some (.int .i64 p'.len)
          rw [hown.cellAt _ (by omega), flat_at Ph.cells 2 Ph.cells_len O t 1 q hq (by decide), ← hql]; rfl
        have fz : ∀ i, wr.drew.frozen? ⟨g, i, none⟩ = wr.frozen? ⟨g, i, none⟩ := fun _ => rfl
        have fz2 := hown.frozenAt
        have k0 : (0 : Int) ≤ (t : Int) := by omega
        have k1 : (t : Int) < (m : Int) := by omega
        have hwa : IntKind.i64.wrap (4 + (t : Int)) = 4 + (t : Int) := IntWalk.i64_in _ (by omega)
        have hwb : IntKind.i64.wrap (2 * tol) = 2 * tol := IntWalk.i64_in _ (by omega)
        have hwc : IntKind.i64.wrap (2 * tol + 1) = 2 * tol + 1 := IntWalk.i64_in _ (by omega)
        have hxr : Sl wr.drew w.heap.size 1 A' n' (bs'.flatMap u8C) := ((hx8.keep fun b' hb' => hbw.block b' (by have := H8.size; omega)))
        have Hq := Lib.hid hq; clear hq
        have Hp' := Lib.hid hp'; clear hp'
        have Hqc := Lib.hid hqc; clear hqc
        have Hql := Lib.hid hql; clear hql
        go_wp2
        refine wp_region_any (by kernel_rfl) (show wpAny _ _ _ _ _ _ _ (World.drew _) from ?_)
        (first
          | (refine wpAny_take (i := 0) (v := ?_) rfl (by kernel_rfl) (by kernel_rfl) (by kernel_rfl) (fun _ _ _ h => h) (Or.inl ⟨by rfl, ?_⟩) ?_
             rotate_left
             focus (intro wq; go_simp; (try (with_reducible rfl)); done))
          | fail "take 0")
        try simp only [Act.put, List.setIfInBounds_toArray, List.set_cons_zero, List.set_cons_succ, List.getElem_toArray, List.getElem_cons_zero]
        (first
          | (refine wpAny_take (i := 1) (v := ?_) rfl (by kernel_rfl) (by kernel_rfl) (by kernel_rfl) (fun _ _ _ h => h) (Or.inl ⟨by rfl, ?_⟩) ?_
             rotate_left
             focus (intro wq; go_simp; (try (with_reducible rfl)); done))
          | fail "take 1")
        try simp only [Act.put, List.setIfInBounds_toArray, List.set_cons_zero, List.set_cons_succ, List.getElem_toArray, List.getElem_cons_zero, List.getElem_cons_succ]
        (first
          | (refine wpAny_take (i := 2) (v := ?_) rfl (by kernel_rfl) (by kernel_rfl) (by kernel_rfl) (fun _ _ _ h => h) (Or.inl ⟨by rfl, ?_⟩) ?_
             rotate_left
             focus (intro wq; go_simp; (try (with_reducible rfl)); done))
          | fail "take 2")
        try simp only [Act.put, List.setIfInBounds_toArray, List.set_cons_zero, List.set_cons_succ, List.getElem_toArray, List.getElem_cons_zero, List.getElem_cons_succ]
        (first
          | (refine wpAny_take (i := 3) (v := ?_) rfl (by kernel_rfl) (by kernel_rfl) (by kernel_rfl) (fun _ _ _ h => h) (Or.inl ⟨by rfl, ?_⟩) ?_
             rotate_left
             focus (intro wq; go_simp; (try (with_reducible rfl)); done))
          | fail "take 3")
        try simp only [Act.put, List.setIfInBounds_toArray, List.set_cons_zero, List.set_cons_succ, List.getElem_toArray, List.getElem_cons_zero, List.getElem_cons_succ]
        (first
          | (refine wpAny_take (i := 4) (v := ?_) rfl (by kernel_rfl) (by kernel_rfl) (by kernel_rfl) (fun _ _ _ h => h) (Or.inl ⟨by rfl, ?_⟩) ?_
             rotate_left
             focus (intro wq; go_simp; (try (with_reducible rfl)); done))
          | fail "take 4")
        try simp only [Act.put, List.setIfInBounds_toArray, List.set_cons_zero, List.set_cons_succ, List.getElem_toArray, List.getElem_cons_zero, List.getElem_cons_succ]
        (first
          | (refine wpAny_take (i := 5) (v := ?_) rfl (by kernel_rfl) (by kernel_rfl) (by kernel_rfl) (fun _ _ _ h => h) (Or.inl ⟨by rfl, ?_⟩) ?_
             rotate_left
             focus (intro wq; go_simp; (try (with_reducible rfl)); done))
          | fail "take 5")
        try simp only [Act.put, List.setIfInBounds_toArray, List.set_cons_zero, List.set_cons_succ, List.getElem_toArray, List.getElem_cons_zero, List.getElem_cons_succ]
        (first
          | (refine wpAny_take (i := 7) (v := ?_) rfl (by kernel_rfl) (by kernel_rfl) (by kernel_rfl) (fun _ _ _ h => h) (Or.inl ⟨by rfl, ?_⟩) ?_
             rotate_left
             focus (intro wq; go_simp; (try (with_reducible rfl)); done))
          | fail "take 7")
        try simp only [Act.put, List.setIfInBounds_toArray, List.set_cons_zero, List.set_cons_succ, List.getElem_toArray, List.getElem_cons_zero, List.getElem_cons_succ]
        (first
          | (refine wpAny_take (i := 8) (v := ?_) rfl (by kernel_rfl) (by kernel_rfl) (by kernel_rfl) (fun _ _ _ h => h) (Or.inl ⟨by rfl, ?_⟩) ?_
             rotate_left
             focus (intro wq; go_simp; (try (with_reducible rfl)); done))
          | fail "take 8")
        try simp only [Act.put, List.setIfInBounds_toArray, List.set_cons_zero, List.set_cons_succ, List.getElem_toArray, List.getElem_cons_zero, List.getElem_cons_succ]
        (first
          | (refine wpAny_take (i := 9) (v := ?_) rfl (by kernel_rfl) (by kernel_rfl) (by kernel_rfl) (fun _ _ _ h => h) (Or.inl ⟨by rfl, ?_⟩) ?_
             rotate_left
             focus (intro wq; go_simp; (try (with_reducible rfl)); done))
          | fail "take 9")
        try simp only [Act.put, List.setIfInBounds_toArray, List.set_cons_zero, List.set_cons_succ, List.getElem_toArray, List.getElem_cons_zero, List.getElem_cons_succ]
        (first
          | (refine wpAny_take (i := 10) (v := ?_) rfl (by kernel_rfl) (by kernel_rfl) (by kernel_rfl) (fun _ _ _ h => h) (Or.inl ⟨by rfl, ?_⟩) ?_
             rotate_left
             focus (intro wq; go_simp; (try (with_reducible rfl)); done))
          | fail "take 10")
        try simp only [Act.put, List.setIfInBounds_toArray, List.set_cons_zero, List.set_cons_succ, List.getElem_toArray, List.getElem_cons_zero, List.getElem_cons_succ]
        (first
          | (refine wpAny_take (i := 11) (v := ?_) rfl (by kernel_rfl) (by kernel_rfl) (by kernel_rfl) (fun _ _ _ h => h) (Or.inl ⟨by rfl, ?_⟩) ?_
             rotate_left
             focus (intro wq; go_simp; (try (with_reducible rfl)); done))
          | fail "take 11")
        try simp only [Act.put, List.setIfInBounds_toArray, List.set_cons_zero, List.set_cons_succ, List.getElem_toArray, List.getElem_cons_zero, List.getElem_cons_succ]
        (first
          | (refine wpAny_take (i := 12) (v := ?_) rfl (by kernel_rfl) (by kernel_rfl) (by kernel_rfl) (fun _ _ _ h => h) (Or.inl ⟨by rfl, ?_⟩) ?_
             rotate_left
             focus (intro wq; go_simp; (try (with_reducible rfl)); done))
          | fail "take 12")
        try simp only [Act.put, List.setIfInBounds_toArray, List.set_cons_zero, List.set_cons_succ, List.getElem_toArray, List.getElem_cons_zero, List.getElem_cons_succ]
        (first
          | (refine wpAny_take (i := 15) (v := ?_) rfl (by kernel_rfl) (by kernel_rfl) (by kernel_rfl) (fun _ _ _ h => h) (Or.inl ⟨by rfl, ?_⟩) ?_
             rotate_left
             focus (intro wq; go_simp; (try (with_reducible rfl)); done))
          | fail "take 15")
        try simp only [Act.put, List.setIfInBounds_toArray, List.set_cons_zero, List.set_cons_succ, List.getElem_toArray, List.getElem_cons_zero, List.getElem_cons_succ]
        refine wpAny_ready (rs := [6, 13]) (by kernel_rfl) (by simp) ?_
        refine allReadyS_cons (o := _) rfl (fun K hK => ?_) (allReadyS_cons (o := _) rfl (fun K hK => ?_) AllReady.nil)
        · go_simp
          skip
          refine hK.out _ _ ?_
          clear hK K
          try simp only [Act.put, List.setIfInBounds_toArray, List.set_cons_zero, List.set_cons_succ, List.getElem_toArray, List.getElem_cons_zero, List.getElem_cons_succ]
          refine wpAny_ready (rs := [13]) (by kernel_rfl) (by simp) ?_
          refine allReadyS_cons (o := _) rfl (fun K hK => ?_) AllReady.nil
          go_simp
          refine (r8At_c A' n' c' _ bs' (4 + t) (2 * tol + 1) _ hxr Hb'.out (by omega) (by omega)).mono ?_; rintro e w11 ⟨r, rfl, r0, r1, _, rfl⟩
          refine hK.out _ _ ?_
          clear hK K
          try simp only [Act.put, List.setIfInBounds_toArray, List.set_cons_zero, List.set_cons_succ, List.getElem_toArray, List.getElem_cons_zero, List.getElem_cons_succ]
          have hwd : IntKind.i64.wrap (p'.len + r) = p'.len + r := IntWalk.i64_in _ (by omega)
          have hwe : IntKind.i64.wrap (p'.len + r - tol) = p'.len + r - tol := IntWalk.i64_in _ (by omega)
          (first
            | (refine wpAny_take (i := 14) (v := ?_) rfl (by kernel_rfl) (by kernel_rfl) (by kernel_rfl) (fun _ _ _ h => h) (Or.inl ⟨by rfl, ?_⟩) ?_
               rotate_left
               focus (intro wq; go_simp; (try (with_reducible rfl)); done))
            | fail "take 14")
          try simp only [Act.put, List.setIfInBounds_toArray, List.set_cons_zero, List.set_cons_succ, List.getElem_toArray, List.getElem_cons_zero, List.getElem_cons_succ]
          (first
            | (refine wpAny_take (i := 16) (v := ?_) rfl (by kernel_rfl) (by kernel_rfl) (by kernel_rfl) (fun _ _ _ h => h) (Or.inl ⟨by rfl, ?_⟩) ?_
               rotate_left
               focus (intro wq; go_simp; (try (with_reducible rfl)); done))
            | fail "take 16")
          try simp only [Act.put, List.setIfInBounds_toArray, List.set_cons_zero, List.set_cons_succ, List.getElem_toArray, List.getElem_cons_zero, List.getElem_cons_succ]
          (first
            | (refine wpAny_take (i := 17) (v := ?_) rfl (by kernel_rfl) (by kernel_rfl) (by kernel_rfl) (fun _ _ _ h => h) (Or.inl ⟨by rfl, ?_⟩) ?_
               rotate_left
               focus (intro wq; go_simp; (try (with_reducible rfl)); done))
            | fail "take 17")
          try simp only [Act.put, List.setIfInBounds_toArray, List.set_cons_zero, List.set_cons_succ, List.getElem_toArray, List.getElem_cons_zero, List.getElem_cons_succ]
          (first
            | (refine wpAny_take (i := 18) (v := ?_) rfl (by kernel_rfl) (by kernel_rfl) (by kernel_rfl) (fun _ _ _ h => h) (Or.inl ⟨by rfl, ?_⟩) ?_
               rotate_left
               focus (intro wq; go_simp; (try (with_reducible rfl)); done))
            | fail "take 18")
          try simp only [Act.put, List.setIfInBounds_toArray, List.set_cons_zero, List.set_cons_succ, List.getElem_toArray, List.getElem_cons_zero, List.getElem_cons_succ]
          (first
            | (refine wpAny_take (i := 19) (v := ?_) rfl (by kernel_rfl) (by kernel_rfl) (by kernel_rfl) (fun _ _ _ h => h) (Or.inl ⟨by rfl, ?_⟩) ?_
               rotate_left
               focus (intro wq; go_simp; (try (with_reducible rfl)); done))
            | fail "take 19")
          try simp only [Act.put, List.setIfInBounds_toArray, List.set_cons_zero, List.set_cons_succ, List.getElem_toArray, List.getElem_cons_zero, List.getElem_cons_succ]
          refine wpAny_ready (rs := [20]) (by kernel_rfl) (by simp) ?_
          refine allReadyS_cons (o := _) rfl (fun K hK => ?_) AllReady.nil
          go_simp
          skip
          refine hK.out _ _ ?_
          clear hK K
          try simp only [Act.put, List.setIfInBounds_toArray, List.set_cons_zero, List.set_cons_succ, List.getElem_toArray, List.getElem_cons_zero, List.getElem_cons_succ]
          refine wpAny_done (by kernel_rfl) ?_ _
          clear hwd hwe hwa hwb hwc
          obtain ⟨L, hL⟩ : ∃ L : Int, (if 1 < p'.len + r - tol then p'.len + r - tol else 1) = L := ⟨_, rfl⟩
          rw [hL]
          have hLb : -tol ≤ L - p'.len ∧ L - p'.len ≤ tol ∧ 1 ≤ L := by
            rw [← hL]
            split <;> omega
          clear hL
          have s1 := hown.stored (t * 2 + 1) (.int .i64 L)
          go_wp2_with fail
          go_roundw
          case rel =>
            refine ⟨t + 1, O.set t ⟨p'.c, L⟩, by go_num, by omega, ?_, Lib.hid (Hpn.out.next Hp'.out hLb.1 hLb.2.1 hLb.2.2), ?_⟩
            · rw [flat_setP O t q ⟨p'.c, L⟩ Hq.out Hqc.out.symm]
              exact own_next s1.1 (Below.refl _ _).drew
            · exact (hbw.setCell hga _).drew
          case measure => simp [intOf]; omega
        · go_simp
          refine (r8At_c A' n' c' _ bs' (4 + t) (2 * tol + 1) _ hxr Hb'.out (by omega) (by omega)).mono ?_; rintro e w11 ⟨r, rfl, r0, r1, _, rfl⟩
          refine hK.out _ _ ?_
          clear hK K
          try simp only [Act.put, List.setIfInBounds_toArray, List.set_cons_zero, List.set_cons_succ, List.getElem_toArray, List.getElem_cons_zero, List.getElem_cons_succ]
          refine wpAny_ready (rs := [6]) (by kernel_rfl) (by simp) ?_
          refine allReadyS_cons (o := _) rfl (fun K hK => ?_) AllReady.nil
          go_simp
          skip
          refine hK.out _ _ ?_
          clear hK K
          try simp only [Act.put, List.setIfInBounds_toArray, List.set_cons_zero, List.set_cons_succ, List.getElem_toArray, List.getElem_cons_zero, List.getElem_cons_succ]
          have hwd : IntKind.i64.wrap (p'.len + r) = p'.len + r := IntWalk.i64_in _ (by omega)
          have hwe : IntKind.i64.wrap (p'.len + r - tol) = p'.len + r - tol := IntWalk.i64_in _ (by omega)
          (first
            | (refine wpAny_take (i := 14) (v := ?_) rfl (by kernel_rfl) (by kernel_rfl) (by kernel_rfl) (fun _ _ _ h => h) (Or.inl ⟨by rfl, ?_⟩) ?_
               rotate_left
               focus (intro wq; go_simp; (try (with_reducible rfl)); done))
            | fail "take 14")
          try simp only [Act.put, List.setIfInBounds_toArray, List.set_cons_zero, List.set_cons_succ, List.getElem_toArray, List.getElem_cons_zero, List.getElem_cons_succ]
          (first
            | (refine wpAny_take (i := 16) (v := ?_) rfl (by kernel_rfl) (by kernel_rfl) (by kernel_rfl) (fun _ _ _ h => h) (Or.inl ⟨by rfl, ?_⟩) ?_
               rotate_left
               focus (intro wq; go_simp; (try (with_reducible rfl)); done))
            | fail "take 16")
          try simp only [Act.put, List.setIfInBounds_toArray, List.set_cons_zero, List.set_cons_succ, List.getElem_toArray, List.getElem_cons_zero, List.getElem_cons_succ]
          (first
            | (refine wpAny_take (i := 17) (v := ?_) rfl (by kernel_rfl) (by kernel_rfl) (by kernel_rfl) (fun _ _ _ h => h) (Or.inl ⟨by rfl, ?_⟩) ?_
               rotate_left
               focus (intro wq; go_simp; (try (with_reducible rfl)); done))
            | fail "take 17")
          try simp only [Act.put, List.setIfInBounds_toArray, List.set_cons_zero, List.set_cons_succ, List.getElem_toArray, List.getElem_cons_zero, List.getElem_cons_succ]
          (first
            | (refine wpAny_take (i := 18) (v := ?_) rfl (by kernel_rfl) (by kernel_rfl) (by kernel_rfl) (fun _ _ _ h => h) (Or.inl ⟨by rfl, ?_⟩) ?_
               rotate_left
               focus (intro wq; go_simp; (try (with_reducible rfl)); done))
            | fail "take 18")
          try simp only [Act.put, List.setIfInBounds_toArray, List.set_cons_zero, List.set_cons_succ, List.getElem_toArray, List.getElem_cons_zero, List.getElem_cons_succ]
          (first
            | (refine wpAny_take (i := 19) (v := ?_) rfl (by kernel_rfl) (by kernel_rfl) (by kernel_rfl) (fun _ _ _ h => h) (Or.inl ⟨by rfl, ?_⟩) ?_
               rotate_left
               focus (intro wq; go_simp; (try (with_reducible rfl)); done))
            | fail "take 19")
          try simp only [Act.put, List.setIfInBounds_toArray, List.set_cons_zero, List.set_cons_succ, List.getElem_toArray, List.getElem_cons_zero, List.getElem_cons_succ]
          refine wpAny_ready (rs := [20]) (by kernel_rfl) (by simp) ?_
          refine allReadyS_cons (o := _) rfl (fun K hK => ?_) AllReady.nil
          go_simp
          skip
          refine hK.out _ _ ?_
          clear hK K
          try simp only [Act.put, List.setIfInBounds_toArray, List.set_cons_zero, List.set_cons_succ, List.getElem_toArray, List.getElem_cons_zero, List.getElem_cons_succ]
          refine wpAny_done (by kernel_rfl) ?_ _
          clear hwd hwe hwa hwb hwc
          obtain ⟨L, hL⟩ : ∃ L : Int, (if 1 < p'.len + r - tol then p'.len + r - tol else 1) = L := ⟨_, rfl⟩
          rw [hL]
          have hLb : -tol ≤ L - p'.len ∧ L - p'.len ≤ tol ∧ 1 ≤ L := by
            rw [← hL]
            split <;> omega
          clear hL
          have s1 := hown.stored (t * 2 + 1) (.int .i64 L)
          go_wp2_with fail
          go_roundw
          case rel =>
            refine ⟨t + 1, O.set t ⟨p'.c, L⟩, by go_num, by omega, ?_, Lib.hid (Hpn.out.next Hp'.out hLb.1 hLb.2.1 hLb.2.2), ?_⟩
            · rw [flat_setP O t q ⟨p'.c, L⟩ Hq.out Hqc.out.symm]
              exact own_next s1.1 (Below.refl _ _).drew
            · exact (hbw.setCell hga _).drew
          case measure => simp [intOf]; omega
      · obtain rfl : t = m := by omega
        have hnear := Hpn.out.all (by rw [Hol.out]; omega)
        have hfr5 := hnear.from (tol2 := tol) hv Hcol.out Hhas.out Hst2.out Hmk.out hm1 (Int.le_refl _)
        have hfr24 := hnear.from (tol2 := 2400) hv Hcol.out Hhas.out Hst2.out Hmk.out hm1 (by omega)
        have hobO := hnear.obs Hob.out (fun q hq => (Hlens.out q hq).2) (by omega)
        have herr := hnear.err hv Hcol.out Hst2.out Hmk.out hm1 t0
        have hszO := near_size hnear Hsz1.out
        have hcE : (hcO O).toList.isEmpty = false := by
          rw [hnear.hc (by rw [Hol.out]; omega), see_hc hv (colB_E2 Hcol.out) Hst2.out Hmk.out hm1]; exact colB_E2 Hcol.out
        have hmem := hit_of Hz.out hcE hv hfr5
        have hfst := first_le (starts_sorted z.x O tol) (starts_mem hcE hv hfr5)
        have hcE2 : (hcO (seeL (phasesL z.x (oneC z.x.cs)) (st : Int) t)).toList.isEmpty = false := by
          rw [see_hc hv (colB_E2 Hcol.out) Hst2.out Hmk.out hm1]; exact colB_E2 Hcol.out
        have hfrS := from_self (tol := tol) hv Hcol.out Hhas.out Hst2.out Hmk.out hm1 t0
        have herr0 : errI z.x (seeL (phasesL z.x (oneC z.x.cs)) (st : Int) t) (st : Int) = 0 := by
          have h1 := (near_self (seeL (phasesL z.x (oneC z.x.cs)) (st : Int) t) (fun q hq => (Hlens.out q hq).1)).err hv Hcol.out Hst2.out Hmk.out hm1 (Int.le_refl 0)
          have h2 := errI_nn z.x (seeL (phasesL z.x (oneC z.x.cs)) (st : Int) t) (st : Int)
          rw [Int.zero_mul] at h1
          omega
        have hlike := like_le Hz.out (starts_mem hcE2 hv hfrS) herr0 N hk
        have hti : inB tol 0 100 = true := inB_iff.2 (by omega)
        have hask := ask_zero Hlt.out hobO hti
        have haskS := ask_zero Hlt.out Hob.out hti
        have hfrS24 := from_self (tol := 2400) hv Hcol.out Hhas.out Hst2.out Hmk.out hm1 (by decide)
        have hEK : errK z.x O (st : Int) = 0 := by simp [errK, okCO, hv, hobO, hfr24]
        have hEV : errV z.x O (st : Int) = errI z.x O (st : Int) := by simp [errV, okCO, hv, hobO, hfr24]
        have hEK0 : errK z.x (seeL (phasesL z.x (oneC z.x.cs)) (st : Int) t) (st : Int) = 0 := by simp [errK, okCO, hv, Hob.out, hfrS24]
        have hEV0 : errV z.x (seeL (phasesL z.x (oneC z.x.cs)) (st : Int) t) (st : Int) = 0 := by simp [errV, okCO, hv, Hob.out, hfrS24, herr0]
        have hSK : startK z.x O tol = 0 := by simp [startK, okCO, hv, hobO, hti, hfst.1]
        have hSV : startV z.x O tol = firstI (startsL z.x O tol) := by simp [startV, okCO, hv, hobO, hti, hfst.1]
        have hLK : likeK zs (seeL (phasesL z.x (oneC z.x.cs)) (st : Int) t) tol = 0 := by simp [likeK, haskS, HN.out, hlike.1]
        have hLV : likeV zs (seeL (phasesL z.x (oneC z.x.cs)) (st : Int) t) tol = (likeN zs (seeL (phasesL z.x (oneC z.x.cs)) (st : Int) t) tol N).1 := by simp [likeV, haskS, HN.out, hlike.1]
        have hcert : certB zs O tol = ((hitsL zs O tol).length == 1) := by rw [certB, hask]; rfl
        have hszS : ∀ q ∈ seeL (phasesL z.x (oneC z.x.cs)) (st : Int) t, q.c.size ≤ maxLen := fun q hq => Nat.le_trans (Hsz1.out q hq) (by decide)
        have hhl := hits_len zs O tol zs.length
        rw [HN.out] at hhl
        have hhl2 : (hitsL zs O tol).length ≤ N := by rw [hitsL, HN.out]; exact hhl
        obtain ⟨F, hF⟩ : ∃ F, firstI (startsL z.x O tol) = F := ⟨_, rfl⟩
        obtain ⟨M, hM⟩ : ∃ M, errI z.x O (st : Int) = M := ⟨_, rfl⟩
        obtain ⟨K, hK⟩ : ∃ K, (likeN zs (seeL (phasesL z.x (oneC z.x.cs)) (st : Int) t) tol N).1 = K := ⟨_, rfl⟩
        rw [hF] at hSV hfst
        rw [hM] at hEV herr
        rw [hK] at hLV hlike
        obtain ⟨f0, f1⟩ := hfst
        obtain ⟨g0, g1, _⟩ := hlike
        have htm2 : 0 ≤ tol * (t : Int) ∧ tol * (t : Int) ≤ 40 := by
          constructor
          · exact Int.mul_nonneg t0 (by omega)
          · have h1 : tol * (t : Int) ≤ 5 * (t : Int) := Int.mul_le_mul_of_nonneg_right t2 (by omega)
            omega
        clear hF hM hK hfr5 hfr24 hfrS hfrS24 herr0 hobO haskS hcE hcE2 hhl hti
        have Hnear := Lib.hid hnear; clear hnear
        have HszO := Lib.hid hszO; clear hszO
        have Hmem := Lib.hid hmem; clear hmem
        have Hask := Lib.hid hask; clear hask
        have HEK := Lib.hid hEK; clear hEK
        have HEV := Lib.hid hEV; clear hEV
        have HEK0 := Lib.hid hEK0; clear hEK0
        have HEV0 := Lib.hid hEV0; clear hEV0
        have HSK := Lib.hid hSK; clear hSK
        have HSV := Lib.hid hSV; clear hSV
        have HLK := Lib.hid hLK; clear hLK
        have HLV := Lib.hid hLV; clear hLV
        have Hcert := Lib.hid hcert; clear hcert
        have HszS := Lib.hid hszS; clear hszS
        have sOn := Sl.of_own hown
        have hbR := hb38.trans (hbw.mono hb38.size)
        have qR := keepC hbR w2.heap.size hzX
        have hSR := hS8.next hbw
        have hzoR := hzo8.next hbw
        have sOR := sO8.next hbw
        clear q8
        go_wp2_with fail
        refine (implIdent_c (some ⟨b, off, none⟩) N cz zs (some ⟨g, 0, none⟩) t c10 O tol _ hSR (by omega) sOn (by omega) HszO.out).mono ?_
        rintro e w12 ⟨v12, rfl, hid, hb12⟩
        rw [IdAns, Hask.out] at hid
        rw [Hask.out]
        obtain ⟨hid0, _⟩ | ⟨_, hov⟩ := hid
        · exact absurd rfl hid0
        obtain ⟨A12, c12, rfl⟩ := own_slice hov
        have H12 := Hbw.trans (hb12.mono Hbw.size)
        have q12 := keepC (hbR.trans (hb12.mono hbR.size)) w2.heap.size hzX
        go_wp2_with fail
        refine (implStart_c z.A z.n z.c z.x _ (hzoR.next hb12).sl hzo.hn hzo.hl hzo.hs (some ⟨g, 0, none⟩) t c10 O (sOn.next hb12) (by omega) tol HszO.out).mono ?_
        rintro e w13 ⟨rfl, hb13⟩
        rw [HSV.out, HSK.out]
        have hbb13 := hb12.trans (hb13.mono hb12.size)
        have H13 := Hbw.trans (hbb13.mono Hbw.size)
        have q13 := keepC (hbR.trans (hbb13.mono hbR.size)) w2.heap.size hzX
        go_wp2_with fail
        refine (implError_c z.A z.n z.c z.x _ (hzoR.next hbb13).sl hzo.hn hzo.hl hzo.hs (some ⟨g, 0, none⟩) t c10 O (sOn.next hbb13) (by omega) (st : Int) HszO.out).mono ?_
        rintro e w14 ⟨rfl, hb14⟩
        rw [HEV.out, HEK.out]
        have hbb14 := hbb13.trans (hb14.mono hbb13.size)
        have H14 := Hbw.trans (hbb14.mono Hbw.size)
        have q14 := keepC (hbR.trans (hbb14.mono hbR.size)) w2.heap.size hzX
        go_wp2_with fail
        refine (implLikely_c (some ⟨b, off, none⟩) N cz zs AO t cO _ tol _ (hSR.next hbb14) (by omega) (sOR.next hbb14) (by omega) HszS.out).mono ?_
        rintro e w15 ⟨rfl, hb15⟩
        rw [HLV.out, HLK.out]
        have hbb15 := hbb14.trans (hb15.mono hbb14.size)
        have H15 := Hbw.trans (hbb15.mono Hbw.size)
        have q15 := keepC (hbR.trans (hbb15.mono hbR.size)) w2.heap.size hzX
        go_wp2_with fail
        refine (implError_c z.A z.n z.c z.x _ (hzoR.next hbb15).sl hzo.hn hzo.hl hzo.hs AO t cO _ (sOR.next hbb15) (by omega) (st : Int) HszS.out).mono ?_
        rintro e w16 ⟨rfl, hb16⟩
        rw [HEV0.out, HEK0.out]
        have hbb16 := hbb15.trans (hb16.mono hbb15.size)
        have H16 := Hbw.trans (hbb16.mono Hbw.size)
        have hov16 := own_next (own_next (own_next (own_next hov hb13) hb14) hb15) hb16
        generalize hitsL zs O tol = LL at *
        generalize hLn : LL.length = Ln at *
        have hmm2 : (k : Int) ∈ LL.map fun (i : Nat) => (i : Int) := List.mem_map_of_mem (f := fun (i : Nat) => (i : Int)) Hmem.out
        have HLn := Lib.hid hLn; clear hLn
        have Hmm3 := Lib.hid hmm2; clear hmm2
        go_wp2_with fail
        refine (r8Has_c A12 Ln c12 _ _ (k : Int) _ (Sl.of_own hov16) Hmm3.out (by omega)).mono ?_
        rintro e w17 ⟨rfl, rfl⟩
        have hF1 : ¬ (st : Int) < F := by omega
        have hM1 : ¬ tol * (t : Int) < M := by omega
        have hK1 : ¬ (k : Int) < K := by omega
        go_wp2_with fail
        refine (implCertain_c (some ⟨b, off, none⟩) N cz zs (some ⟨g, 0, none⟩) t c10 O tol _ (hSR.next hbb16) (by omega) (sOn.next hbb16) (by omega) HszO.out).mono ?_
        rintro e w18 ⟨rfl, hb18⟩
        have H18 := H16.trans (hb18.mono H16.size)
        have hce : certB zs O tol = ((Ln : Int) == 1) := by
          rw [Hcert.out, Bool.eq_iff_iff]; simp <;> omega
        rw [hce]
        have Hce := Lib.hid hce; clear hce
        cases hL1 : ((Ln : Int) == 1)
        all_goals
          go_wp2_with fail
          go_ret
          exact ⟨rfl, H18⟩
  · go_enter Try.func12, Try.ntmps12
    have hlong := r8Long_c A A' n c n' c' w
    rw [hbig] at hlong
    have Hlong := Lib.hid hlong; clear hlong
    clear hbig
    go_wp2_with fail
    refine Hlong.out.mono ?_
    rintro e w1 ⟨rfl, rfl⟩
    go_wp2_with fail
    go_ret
    exact ⟨rfl, Below.refl _ _⟩
end Go.Proofs.Ytgfplmfdgbklkaa
