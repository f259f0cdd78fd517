/- OwnJ: several of my texts in one. -/
import Derived.Test.YtpfnnjcochhklaaGreatDoorAidsG
import Derived.Test.YtpfnnjcochhklaaGreatDoorApG
import Derived.Test.YtpfnnjcochhklaaGreatDoorOwnP

/- An aid of its own: the program: clone. -/
namespace Go.Proofs.YtpfnnjcochhklaaGreatDoor
open Go.RowKit
set_option maxHeartbeats 1000000 in
theorem cloneInt_c (A : Option Addr) (n c : Nat) (xs : List Int) (w : World) (h : Sl w w.heap.size 1 A n (xs.flatMap intC)) (hm : n ≤ 1048576) :
    Calls Tryz.prog 48 #[.slice A n c] w fun e w' => ∃ A' c', e = .returned (.slice A' n c') ∧ w'.ownsRow w.heap.size 2 1 (.slice A' n c') n (xs.flatMap intC) ∧ Below w.heap.size w w' := by
  obtain ⟨i0, hi, hz0, hz1, hz2⟩ := info_parts intInfo
  have hB : i0.bytes * n ≤ 281474976710656 := by rw [hz2]; omega
  have hM : n ≤ maxLen := by unfold maxLen; omega
  have e63 : 0 + n ≤ maxLen := by unfold maxLen; omega
  have e32 : (0 + n) * 8 ≤ 140737488355328 := by omega
  have HB := Lib.hid hB; clear hB
  have HM := Lib.hid hM; clear hM
  have E63 := Lib.hid e63; clear e63
  have E32 := Lib.hid e32; clear e32
  have H := Lib.hid h; clear h
  go_enter Tryz.func48, Tryz.ntmps48
  go_wp2_with (first
    | (at_make; refine wpList_make_own _ rfl _ _ _ rfl w.heap.size 2 i0 _ 1 Tryz.underlying30 hi hz0 hz1 _ _ _ n rfl rfl rfl HB.out HM.out (Nat.le_refl _) ?_; intro w1 hown hgr; have hb0 : Below w.heap.size w w1 := (Below.refl _ _).grown hgr (Nat.le_refl _) (by simp))
    | (at_builtin; refine wpl_append _ rfl (.tmp 5) (.tmp 6) _ rfl w.heap.size 2 i0 _ 1 8 Tryz.underlying30 hi hz0 hz1 hz2 rfl (by omega) _ 0 _ rfl hown _ A n c (xs.flatMap intC) rfl (H.out.next hb0) (flat_one _ intC_one xs) E63.out E32.out hb0.size ?_; intro v2 w2 ho2 hg2 hat2))
  go_ret
  rw [Nat.zero_add] at ho2
  obtain ⟨A', c', rfl⟩ := own_slice ho2
  exact ⟨A', c', rfl, by simpa using ho2, hb0.grown hg2 hb0.size fun g hg => (hown.lt g hg).1⟩
set_option maxHeartbeats 1000000 in
theorem cloneSec_c (A : Option Addr) (n c : Nat) (xs : List Sec) (w : World) (h : Sl w w.heap.size 3 A n (xs.flatMap Sec.cells)) (hm : n ≤ 1048576) :
    Calls Tryz.prog 49 #[.slice A n c] w fun e w' => ∃ A' c', e = .returned (.slice A' n c') ∧ w'.ownsRow w.heap.size 94 3 (.slice A' n c') n (xs.flatMap Sec.cells) ∧ Below w.heap.size w w' := by
  obtain ⟨i0, hi, hz0, hz1, hz2⟩ := info_parts secInfo
  have hB : i0.bytes * n ≤ 281474976710656 := by rw [hz2]; omega
  have hM : n ≤ maxLen := by unfold maxLen; omega
  have e63 : 0 + n ≤ maxLen := by unfold maxLen; omega
  have e32 : (0 + n) * 32 ≤ 140737488355328 := by omega
  have HB := Lib.hid hB; clear hB
  have HM := Lib.hid hM; clear hM
  have E63 := Lib.hid e63; clear e63
  have E32 := Lib.hid e32; clear e32
  have H := Lib.hid h; clear h
  go_enter Tryz.func49, Tryz.ntmps49
  go_wp2_with (first
    | (at_make; refine wpList_make_own _ rfl _ _ _ rfl w.heap.size 94 i0 _ 3 Tryz.underlying54 hi hz0 hz1 _ _ _ n rfl rfl rfl HB.out HM.out (Nat.le_refl _) ?_; intro w1 hown hgr; have hb0 : Below w.heap.size w w1 := (Below.refl _ _).grown hgr (Nat.le_refl _) (by simp))
    | (at_builtin; refine wpl_append _ rfl (.tmp 5) (.tmp 6) _ rfl w.heap.size 94 i0 _ 3 32 Tryz.underlying54 hi hz0 hz1 hz2 rfl (by omega) _ 0 _ rfl hown _ A n c (xs.flatMap Sec.cells) rfl (H.out.next hb0) (flat_one _ sec_one xs) E63.out E32.out hb0.size ?_; intro v2 w2 ho2 hg2 hat2))
  go_ret
  rw [Nat.zero_add] at ho2
  obtain ⟨A', c', rfl⟩ := own_slice ho2
  exact ⟨A', c', rfl, by simpa using ho2, hb0.grown hg2 hb0.size fun g hg => (hown.lt g hg).1⟩
end Go.Proofs.YtpfnnjcochhklaaGreatDoor

/- An aid of its own: the program: copyAid. -/
namespace Go.Proofs.YtpfnnjcochhklaaGreatDoor
open Go.RowKit
theorem then_worldA {K : Act → World → Prop} {Q : Exit → Act → World → Prop} {x : Exit} {a : Act} {W : World} (F : World → Prop) (hF : F W) (k : ∀ w2, F w2 → Exit.then K Q x a w2) : Exit.then K Q x a W := k W hF
set_option maxRecDepth 100000 in
set_option maxHeartbeats 2000000 in
theorem copyAid_c (z : AidG) (w : World) (h : AidOk w z) :
    Calls Tryz.prog 29 #[z.val] w fun e w' => ∃ z' : AidG, e = .returned z'.val ∧ z'.a = z.a ∧ AidNew w' w.heap.size z' ∧ Below w.heap.size w w' := by
  have hn : z.n ≤ 1048576 := h.bd.gs
  have hm : z.m ≤ 1048576 := h.bd.ss
  have hb0 : Below w.heap.size w ((w.alloc (aidO z 56)).alloc (aidO aidZ 56)) := by (repeat (first | (with_reducible assumption) | (with_reducible exact Below.refl _ _) | exact Nat.le_refl _ | exact Below.size (by with_reducible assumption) | (with_reducible refine Below.drew ?_) | (with_reducible refine below_drewN ?_ _) | (with_reducible refine Below.alloc ?_ ?_ _) | (with_reducible refine Below.setCell ?_ ?_ _) | (with_reducible refine le_alloc ?_ _) | (with_reducible refine le_set ?_ _ _) | (with_reducible refine le_drew ?_) | (with_reducible refine le_drewN ?_ _) | omega | (dsimp only; omega)))
  have hs0 : (w.alloc (aidO z 56)).heap.size = w.heap.size + 1 := by simp
  have FX0 := (AidF.box w z 56).next (w' := (w.alloc (aidO z 56)).alloc (aidO aidZ 56)) (by (repeat (first | (with_reducible assumption) | (with_reducible exact Below.refl _ _) | exact Nat.le_refl _ | exact Below.size (by with_reducible assumption) | (with_reducible refine Below.drew ?_) | (with_reducible refine below_drewN ?_ _) | (with_reducible refine Below.alloc ?_ ?_ _) | (with_reducible refine Below.setCell ?_ ?_ _) | (with_reducible refine le_alloc ?_ _) | (with_reducible refine le_set ?_ _ _) | (with_reducible refine le_drew ?_) | (with_reducible refine le_drewN ?_ _) | omega | (dsimp only; omega))))
  have FR0 := AidF.box (w.alloc (aidO z 56)) aidZ 56
  have hz9 : ((w.alloc (aidO z 56)).alloc (aidO aidZ 56)).heap.size = w.heap.size + 2 := by simp
  rw [hs0] at FR0
  obtain ⟨w0, hw⟩ : ∃ w0, (w.alloc (aidO z 56)).alloc (aidO aidZ 56) = w0 := ⟨_, rfl⟩
  rw [hw] at hb0 FR0 FX0 hz9
  have h0 := h.next hb0
  have hC3 : ∀ w1, Below w0.heap.size w0 w1 → Calls Tryz.prog 48 #[.slice z.A z.n z.c] w1 fun e w' => ∃ A' c', e = .returned (.slice A' z.n c') ∧ w'.ownsRow w1.heap.size 2 1 (.slice A' z.n c') z.n (z.a.ch.gs.flatMap intC) ∧ Below w1.heap.size w1 w' := fun w1 hb => cloneInt_c z.A z.n z.c z.a.ch.gs w1 (h0.next hb).sl hn
  have hC6 : ∀ w1, Below w0.heap.size w0 w1 → Calls Tryz.prog 49 #[.slice z.B z.m z.d] w1 fun e w' => ∃ A' c', e = .returned (.slice A' z.m c') ∧ w'.ownsRow w1.heap.size 94 3 (.slice A' z.m c') z.m (z.a.secs.flatMap Sec.cells) ∧ Below w1.heap.size w1 w' := fun w1 hb => cloneSec_c z.B z.m z.d z.a.secs w1 (h0.next hb).ss hm
  have x10 := FX0.p.c10
  have x14 := FX0.p.c14
  simp only [Nat.zero_add] at x10 x14
  have hX : w.heap.size < w0.heap.size := by omega
  clear hs0 h h0
  have HX0 := Lib.hid FX0; clear FX0
  have HR0 := Lib.hid FR0; clear FR0
  have HC3 := Lib.hid hC3; clear hC3
  have HC6 := Lib.hid hC6; clear hC6
  go_enter Tryz.func29, Tryz.ntmps29
  go_wp2_with fail
  change Code.wp _ _ _ _ ((w.alloc (aidO z 56)).alloc (aidO aidZ 56))
  rw [hw]
  clear hw
  refine wp_region_held_drew (S := fun _ => True) (by kernel_rfl) trivial (fun hHeld => ?_)
  (first
    | (refine wpAnyH_take (i := 0) (v := ?_) rfl (by kernel_rfl) (by kernel_rfl) (by kernel_rfl) (fun _ _ _ h => h) (Or.inl ⟨by rfl, ?_⟩) (by assumption) ?_
       rotate_left
       focus (intro wq hSq; (try dsimp only at hSq); go_simp; (try (with_reducible rfl)); done))
    | (refine wpAnyH_take (i := 0) (v := undef) rfl (by kernel_rfl) (by kernel_rfl) (by kernel_rfl) (fun _ _ _ h => h) (Or.inr ⟨by rfl, rfl⟩) (by assumption) ?_)
    | fail "take 0")
  try simp only [Act.put, List.setIfInBounds_toArray, List.set_cons_zero, List.set_cons_succ, List.getElem_toArray, List.getElem_cons_zero]
  (first
    | (refine wpAnyH_take (i := 1) (v := ?_) rfl (by kernel_rfl) (by kernel_rfl) (by kernel_rfl) (fun _ _ _ h => h) (Or.inl ⟨by rfl, ?_⟩) (by assumption) ?_
       rotate_left
       focus (intro wq hSq; (try dsimp only at hSq); go_simp; (try (with_reducible rfl)); done))
    | (refine wpAnyH_take (i := 1) (v := undef) rfl (by kernel_rfl) (by kernel_rfl) (by kernel_rfl) (fun _ _ _ h => h) (Or.inr ⟨by rfl, rfl⟩) (by assumption) ?_)
    | fail "take 1")
  try simp only [Act.put, List.setIfInBounds_toArray, List.set_cons_zero, List.set_cons_succ, List.getElem_toArray, List.getElem_cons_zero, List.getElem_cons_succ]
  (first
    | (refine wpAnyH_take (i := 4) (v := ?_) rfl (by kernel_rfl) (by kernel_rfl) (by kernel_rfl) (fun _ _ _ h => h) (Or.inl ⟨by rfl, ?_⟩) (by assumption) ?_
       rotate_left
       focus (intro wq hSq; (try dsimp only at hSq); go_simp; (try (with_reducible rfl)); done))
    | (refine wpAnyH_take (i := 4) (v := undef) rfl (by kernel_rfl) (by kernel_rfl) (by kernel_rfl) (fun _ _ _ h => h) (Or.inr ⟨by rfl, rfl⟩) (by assumption) ?_)
    | fail "take 4")
  try simp only [Act.put, List.setIfInBounds_toArray, List.set_cons_zero, List.set_cons_succ, List.getElem_toArray, List.getElem_cons_zero, List.getElem_cons_succ]
  refine wpAnyH_ready (rs := [2, 5]) (by kernel_rfl) (by simp) ?_
  refine AllReadyH.cons (o := _) rfl (fun K hK => ?_) (AllReadyH.cons (o := _) rfl (fun K hK => ?_) AllReadyH.nil)
  · go_simp
    skip
    refine hK.out _ _ ?_ (fun hHeld => ?_)
    · exact trivial
    clear hK K
    try simp only [Act.put, List.setIfInBounds_toArray, List.set_cons_zero, List.set_cons_succ, List.getElem_toArray, List.getElem_cons_zero, List.getElem_cons_succ]
    refine wpAnyH_ready (rs := [3, 5]) (by kernel_rfl) (by simp) ?_
    refine AllReadyH.cons (o := _) rfl (fun K hK => ?_) (AllReadyH.cons (o := _) rfl (fun K hK => ?_) AllReadyH.nil)
    · go_simp
      (refine (HC3.out _ (Below.refl _ _).drew).mono ?_; rintro e w1 ⟨A1, k1, rfl, ho1, hb1'⟩; have hb1 := (Below.refl w0.heap.size w0).drew.trans hb1'; have y14 := (keepC hb1 w.heap.size hX 14).trans x14)
      refine hK.out _ _ ?_ (fun hHeld => ?_)
      · exact trivial
      clear hK K
      try simp only [Act.put, List.setIfInBounds_toArray, List.set_cons_zero, List.set_cons_succ, List.getElem_toArray, List.getElem_cons_zero, List.getElem_cons_succ]
      refine wpAnyH_ready (rs := [5]) (by kernel_rfl) (by simp) ?_
      refine AllReadyH.cons (o := _) rfl (fun K hK => ?_) AllReadyH.nil
      go_simp
      skip
      refine hK.out _ _ ?_ (fun hHeld => ?_)
      · exact trivial
      clear hK K
      try simp only [Act.put, List.setIfInBounds_toArray, List.set_cons_zero, List.set_cons_succ, List.getElem_toArray, List.getElem_cons_zero, List.getElem_cons_succ]
      (first
        | (refine wpAnyH_take (i := 7) (v := ?_) rfl (by kernel_rfl) (by kernel_rfl) (by kernel_rfl) (fun _ _ _ h => h) (Or.inl ⟨by rfl, ?_⟩) (by assumption) ?_
           rotate_left
           focus (intro wq hSq; (try dsimp only at hSq); go_simp; (try (with_reducible rfl)); done))
        | (refine wpAnyH_take (i := 7) (v := undef) rfl (by kernel_rfl) (by kernel_rfl) (by kernel_rfl) (fun _ _ _ h => h) (Or.inr ⟨by rfl, rfl⟩) (by assumption) ?_)
        | fail "take 7")
      try simp only [Act.put, List.setIfInBounds_toArray, List.set_cons_zero, List.set_cons_succ, List.getElem_toArray, List.getElem_cons_zero, List.getElem_cons_succ]
      (first
        | (refine wpAnyH_take (i := 8) (v := ?_) rfl (by kernel_rfl) (by kernel_rfl) (by kernel_rfl) (fun _ _ _ h => h) (Or.inl ⟨by rfl, ?_⟩) (by assumption) ?_
           rotate_left
           focus (intro wq hSq; (try dsimp only at hSq); go_simp; (try (with_reducible rfl)); done))
        | (refine wpAnyH_take (i := 8) (v := undef) rfl (by kernel_rfl) (by kernel_rfl) (by kernel_rfl) (fun _ _ _ h => h) (Or.inr ⟨by rfl, rfl⟩) (by assumption) ?_)
        | fail "take 8")
      try simp only [Act.put, List.setIfInBounds_toArray, List.set_cons_zero, List.set_cons_succ, List.getElem_toArray, List.getElem_cons_zero, List.getElem_cons_succ]
      refine wpAnyH_ready (rs := [6]) (by kernel_rfl) (by simp) ?_
      refine AllReadyH.cons (o := _) rfl (fun K hK => ?_) AllReadyH.nil
      go_simp
      (refine (HC6.out _ hb1).mono ?_; rintro e w2 ⟨B1, d1, rfl, ho2, hb2'⟩)
      refine hK.out _ _ ?_ (fun hHeld => ?_)
      · exact trivial
      clear hK K
      try simp only [Act.put, List.setIfInBounds_toArray, List.set_cons_zero, List.set_cons_succ, List.getElem_toArray, List.getElem_cons_zero, List.getElem_cons_succ]
      have hb2 := hb1.trans (hb2'.mono hb1.size)
      have FX2 := HX0.out.next hb2
      have FR2 := HR0.out.next hb2
      have g10 := FX2.p.c10
      have g14 := FX2.p.c14
      have gf := FX2.f
      simp only [Nat.zero_add] at g10 g14
      have ho1' := own_next ho1 hb2'
      have hbw2 := hb0.trans (hb2.mono hb0.size)
      refine wpAnyH_ready (rs := [9]) (by kernel_rfl) (by simp) ?_
      refine AllReadyH.cons (o := _) rfl (fun K hK => ?_) AllReadyH.nil
      go_simp
      skip
      refine hK.out _ _ ?_ (fun hHeld => ?_)
      · exact trivial
      clear hK K
      try simp only [Act.put, List.setIfInBounds_toArray, List.set_cons_zero, List.set_cons_succ, List.getElem_toArray, List.getElem_cons_zero, List.getElem_cons_succ]
      (first
        | (refine wpAnyH_take (i := 10) (v := ?_) rfl (by kernel_rfl) (by kernel_rfl) (by kernel_rfl) (fun _ _ _ h => h) (Or.inl ⟨by rfl, ?_⟩) (by assumption) ?_
           rotate_left
           focus (intro wq hSq; (try dsimp only at hSq); go_simp; (try (with_reducible rfl)); done))
        | (refine wpAnyH_take (i := 10) (v := undef) rfl (by kernel_rfl) (by kernel_rfl) (by kernel_rfl) (fun _ _ _ h => h) (Or.inr ⟨by rfl, rfl⟩) (by assumption) ?_)
        | fail "take 10")
      try simp only [Act.put, List.setIfInBounds_toArray, List.set_cons_zero, List.set_cons_succ, List.getElem_toArray, List.getElem_cons_zero, List.getElem_cons_succ]
      refine wpAnyH_ready (rs := [11]) (by kernel_rfl) (by simp) ?_
      refine AllReadyH.cons (o := _) rfl (fun K hK => ?_) AllReadyH.nil
      go_simp
      skip
      refine hK.out _ _ ?_ (fun hHeld => ?_)
      · exact trivial
      clear hK K
      try simp only [Act.put, List.setIfInBounds_toArray, List.set_cons_zero, List.set_cons_succ, List.getElem_toArray, List.getElem_cons_zero, List.getElem_cons_succ]
      refine wpAnyH_done (by kernel_rfl) ?_ _
      have FX4 := (FX2.group A1 k1).secs B1 d1
      have FR3 := FR2.other w.heap.size 10 [.slice A1 z.n k1] (by omega)
      have FR4 := FR3.other w.heap.size 14 [.slice B1 z.m d1] (by omega)
      have B4 := belowW w.heap.size (Nat.le_refl _) [.slice B1 z.m d1] 14 _ (belowW w.heap.size (Nat.le_refl _) [.slice A1 z.n k1] 10 _ hbw2)
      have G4 := ownW w.heap.size hX [.slice B1 z.m d1] 14 _ (ownW w.heap.size hX [.slice A1 z.n k1] 10 _ ho1')
      have E4 := ownW w.heap.size (by have := hb1.size; omega) [.slice B1 z.m d1] 14 _ (ownW w.heap.size (by have := hb1.size; omega) [.slice A1 z.n k1] 10 _ ho2)
      refine then_worldA (F := fun w4 => AidF w4 w.heap.size ⟨z.a, A1, k1, B1, d1⟩ ∧ AidF w4 (w.heap.size + 1) aidZ ∧ Below w.heap.size w w4 ∧ AidNew w4 (w.heap.size + 2) ⟨z.a, A1, k1, B1, d1⟩) ⟨FX4, FR4, B4, ⟨own_base G4 (show w.heap.size + 2 ≤ w0.heap.size by omega), own_base E4 (by have := hb1.size; omega)⟩⟩ ?_
      clear FX4 FR3 FR4 B4 G4 E4 FX2 FR2 g10 g14 gf ho1' hbw2 hb2 ho1 ho2 hb2' hb1 hb1' y14 hHeld
      rintro w4 ⟨FX5, FR5, B5, N5⟩
      as_aux_lemma =>
        obtain ⟨c0, c1, c2, c3, c4, c5, c6, c7, c8, c9, c10, c11, c12, c13, c14, c15, _⟩ := FX5.p
        simp only [Nat.zero_add] at c1 c2 c3 c4 c5 c6 c7 c8 c9 c10 c11 c12 c13 c14 c15
        have T4 := FR5.there 0 16 (by omega)
        have FR6 := FR5.set ⟨z.a, A1, k1, B1, d1⟩
        have B6 := belowW (w.heap.size + 1) (by omega) (AidG.cells ⟨z.a, A1, k1, B1, d1⟩) 0 _ B5
        have N6 : AidNew (w4.setCells (w.heap.size + 1) 0 (AidG.cells ⟨z.a, A1, k1, B1, d1⟩)) (w.heap.size + 2) ⟨z.a, A1, k1, B1, d1⟩ := ⟨ownW (w.heap.size + 1) (by omega) _ 0 _ N5.g, ownW (w.heap.size + 1) (by omega) _ 0 _ N5.s⟩
        obtain ⟨w5, hw5⟩ : ∃ w5, w4.setCells (w.heap.size + 1) 0 (AidG.cells ⟨z.a, A1, k1, B1, d1⟩) = w5 := ⟨_, rfl⟩
        rw [hw5] at FR6 B6 N6
        obtain ⟨r0, r1, r2, r3, r4, r5, r6, r7, r8, r9, r10, r11, r12, r13, r14, r15, _⟩ := FR6.p
        simp only [Nat.zero_add] at r1 r2 r3 r4 r5 r6 r7 r8 r9 r10 r11 r12 r13 r14 r15
        have ONE' : (List.toArray (AidG.cells ⟨z.a, A1, k1, B1, d1⟩)).all (·.oneCell') = true := all_oneCell_toArray (aidg_one _)
        have HT4 := Lib.hid T4; clear T4
        have HW5 := Lib.hid hw5; clear hw5
        have HONE' := Lib.hid ONE'; clear ONE'
        have HB6 := Lib.hid B6; clear B6
        have HN6 := Lib.hid N6; clear N6
        clear FR6 FR5 FX5 B5 N5
        go_wp2_with (first | (refine wpList_store_mid rfl _ _ _ rfl (w.heap.size + 1) 0 (List.toArray (AidG.cells ⟨z.a, A1, k1, B1, d1⟩)) rfl rfl HT4.out (by kernel_rfl) HONE'.out ?_; rw [show w4.setCells (w.heap.size + 1) 0 (List.toArray (AidG.cells ⟨z.a, A1, k1, B1, d1⟩)).toList = w5 from HW5.out]))
        refine bodyPost_ret (v := AidG.val ⟨z.a, A1, k1, B1, d1⟩) (by simp [results, Tryz.results29, go_sem, r0, r1, r2, r3, r4, r5, r6, r7, r8, r9, r10, r11, r12, r13, r14, r15]) rfl ⟨_, rfl, rfl, ⟨own_base HN6.out.g (by omega), own_base HN6.out.s (by omega)⟩, HB6.out⟩
    · go_simp
      skip
      refine hK.out _ _ ?_ (fun hHeld => ?_)
      · exact trivial
      clear hK K
      try simp only [Act.put, List.setIfInBounds_toArray, List.set_cons_zero, List.set_cons_succ, List.getElem_toArray, List.getElem_cons_zero, List.getElem_cons_succ]
      refine wpAnyH_ready (rs := [3]) (by kernel_rfl) (by simp) ?_
      refine AllReadyH.cons (o := _) rfl (fun K hK => ?_) AllReadyH.nil
      go_simp
      (refine (HC3.out _ (Below.refl _ _).drew).mono ?_; rintro e w1 ⟨A1, k1, rfl, ho1, hb1'⟩; have hb1 := (Below.refl w0.heap.size w0).drew.trans hb1'; have y14 := (keepC hb1 w.heap.size hX 14).trans x14)
      refine hK.out _ _ ?_ (fun hHeld => ?_)
      · exact trivial
      clear hK K
      try simp only [Act.put, List.setIfInBounds_toArray, List.set_cons_zero, List.set_cons_succ, List.getElem_toArray, List.getElem_cons_zero, List.getElem_cons_succ]
      (first
        | (refine wpAnyH_take (i := 7) (v := ?_) rfl (by kernel_rfl) (by kernel_rfl) (by kernel_rfl) (fun _ _ _ h => h) (Or.inl ⟨by rfl, ?_⟩) (by assumption) ?_
           rotate_left
           focus (intro wq hSq; (try dsimp only at hSq); go_simp; (try (with_reducible rfl)); done))
        | (refine wpAnyH_take (i := 7) (v := undef) rfl (by kernel_rfl) (by kernel_rfl) (by kernel_rfl) (fun _ _ _ h => h) (Or.inr ⟨by rfl, rfl⟩) (by assumption) ?_)
        | fail "take 7")
      try simp only [Act.put, List.setIfInBounds_toArray, List.set_cons_zero, List.set_cons_succ, List.getElem_toArray, List.getElem_cons_zero, List.getElem_cons_succ]
      (first
        | (refine wpAnyH_take (i := 8) (v := ?_) rfl (by kernel_rfl) (by kernel_rfl) (by kernel_rfl) (fun _ _ _ h => h) (Or.inl ⟨by rfl, ?_⟩) (by assumption) ?_
           rotate_left
           focus (intro wq hSq; (try dsimp only at hSq); go_simp; (try (with_reducible rfl)); done))
        | (refine wpAnyH_take (i := 8) (v := undef) rfl (by kernel_rfl) (by kernel_rfl) (by kernel_rfl) (fun _ _ _ h => h) (Or.inr ⟨by rfl, rfl⟩) (by assumption) ?_)
        | fail "take 8")
      try simp only [Act.put, List.setIfInBounds_toArray, List.set_cons_zero, List.set_cons_succ, List.getElem_toArray, List.getElem_cons_zero, List.getElem_cons_succ]
      refine wpAnyH_ready (rs := [6]) (by kernel_rfl) (by simp) ?_
      refine AllReadyH.cons (o := _) rfl (fun K hK => ?_) AllReadyH.nil
      go_simp
      (refine (HC6.out _ hb1).mono ?_; rintro e w2 ⟨B1, d1, rfl, ho2, hb2'⟩)
      refine hK.out _ _ ?_ (fun hHeld => ?_)
      · exact trivial
      clear hK K
      try simp only [Act.put, List.setIfInBounds_toArray, List.set_cons_zero, List.set_cons_succ, List.getElem_toArray, List.getElem_cons_zero, List.getElem_cons_succ]
      have hb2 := hb1.trans (hb2'.mono hb1.size)
      have FX2 := HX0.out.next hb2
      have FR2 := HR0.out.next hb2
      have g10 := FX2.p.c10
      have g14 := FX2.p.c14
      have gf := FX2.f
      simp only [Nat.zero_add] at g10 g14
      have ho1' := own_next ho1 hb2'
      have hbw2 := hb0.trans (hb2.mono hb0.size)
      refine wpAnyH_ready (rs := [9]) (by kernel_rfl) (by simp) ?_
      refine AllReadyH.cons (o := _) rfl (fun K hK => ?_) AllReadyH.nil
      go_simp
      skip
      refine hK.out _ _ ?_ (fun hHeld => ?_)
      · exact trivial
      clear hK K
      try simp only [Act.put, List.setIfInBounds_toArray, List.set_cons_zero, List.set_cons_succ, List.getElem_toArray, List.getElem_cons_zero, List.getElem_cons_succ]
      (first
        | (refine wpAnyH_take (i := 10) (v := ?_) rfl (by kernel_rfl) (by kernel_rfl) (by kernel_rfl) (fun _ _ _ h => h) (Or.inl ⟨by rfl, ?_⟩) (by assumption) ?_
           rotate_left
           focus (intro wq hSq; (try dsimp only at hSq); go_simp; (try (with_reducible rfl)); done))
        | (refine wpAnyH_take (i := 10) (v := undef) rfl (by kernel_rfl) (by kernel_rfl) (by kernel_rfl) (fun _ _ _ h => h) (Or.inr ⟨by rfl, rfl⟩) (by assumption) ?_)
        | fail "take 10")
      try simp only [Act.put, List.setIfInBounds_toArray, List.set_cons_zero, List.set_cons_succ, List.getElem_toArray, List.getElem_cons_zero, List.getElem_cons_succ]
      refine wpAnyH_ready (rs := [11]) (by kernel_rfl) (by simp) ?_
      refine AllReadyH.cons (o := _) rfl (fun K hK => ?_) AllReadyH.nil
      go_simp
      skip
      refine hK.out _ _ ?_ (fun hHeld => ?_)
      · exact trivial
      clear hK K
      try simp only [Act.put, List.setIfInBounds_toArray, List.set_cons_zero, List.set_cons_succ, List.getElem_toArray, List.getElem_cons_zero, List.getElem_cons_succ]
      refine wpAnyH_done (by kernel_rfl) ?_ _
      have FX4 := (FX2.group A1 k1).secs B1 d1
      have FR3 := FR2.other w.heap.size 10 [.slice A1 z.n k1] (by omega)
      have FR4 := FR3.other w.heap.size 14 [.slice B1 z.m d1] (by omega)
      have B4 := belowW w.heap.size (Nat.le_refl _) [.slice B1 z.m d1] 14 _ (belowW w.heap.size (Nat.le_refl _) [.slice A1 z.n k1] 10 _ hbw2)
      have G4 := ownW w.heap.size hX [.slice B1 z.m d1] 14 _ (ownW w.heap.size hX [.slice A1 z.n k1] 10 _ ho1')
      have E4 := ownW w.heap.size (by have := hb1.size; omega) [.slice B1 z.m d1] 14 _ (ownW w.heap.size (by have := hb1.size; omega) [.slice A1 z.n k1] 10 _ ho2)
      refine then_worldA (F := fun w4 => AidF w4 w.heap.size ⟨z.a, A1, k1, B1, d1⟩ ∧ AidF w4 (w.heap.size + 1) aidZ ∧ Below w.heap.size w w4 ∧ AidNew w4 (w.heap.size + 2) ⟨z.a, A1, k1, B1, d1⟩) ⟨FX4, FR4, B4, ⟨own_base G4 (show w.heap.size + 2 ≤ w0.heap.size by omega), own_base E4 (by have := hb1.size; omega)⟩⟩ ?_
      clear FX4 FR3 FR4 B4 G4 E4 FX2 FR2 g10 g14 gf ho1' hbw2 hb2 ho1 ho2 hb2' hb1 hb1' y14 hHeld
      rintro w4 ⟨FX5, FR5, B5, N5⟩
      as_aux_lemma =>
        obtain ⟨c0, c1, c2, c3, c4, c5, c6, c7, c8, c9, c10, c11, c12, c13, c14, c15, _⟩ := FX5.p
        simp only [Nat.zero_add] at c1 c2 c3 c4 c5 c6 c7 c8 c9 c10 c11 c12 c13 c14 c15
        have T4 := FR5.there 0 16 (by omega)
        have FR6 := FR5.set ⟨z.a, A1, k1, B1, d1⟩
        have B6 := belowW (w.heap.size + 1) (by omega) (AidG.cells ⟨z.a, A1, k1, B1, d1⟩) 0 _ B5
        have N6 : AidNew (w4.setCells (w.heap.size + 1) 0 (AidG.cells ⟨z.a, A1, k1, B1, d1⟩)) (w.heap.size + 2) ⟨z.a, A1, k1, B1, d1⟩ := ⟨ownW (w.heap.size + 1) (by omega) _ 0 _ N5.g, ownW (w.heap.size + 1) (by omega) _ 0 _ N5.s⟩
        obtain ⟨w5, hw5⟩ : ∃ w5, w4.setCells (w.heap.size + 1) 0 (AidG.cells ⟨z.a, A1, k1, B1, d1⟩) = w5 := ⟨_, rfl⟩
        rw [hw5] at FR6 B6 N6
        obtain ⟨r0, r1, r2, r3, r4, r5, r6, r7, r8, r9, r10, r11, r12, r13, r14, r15, _⟩ := FR6.p
        simp only [Nat.zero_add] at r1 r2 r3 r4 r5 r6 r7 r8 r9 r10 r11 r12 r13 r14 r15
        have ONE' : (List.toArray (AidG.cells ⟨z.a, A1, k1, B1, d1⟩)).all (·.oneCell') = true := all_oneCell_toArray (aidg_one _)
        have HT4 := Lib.hid T4; clear T4
        have HW5 := Lib.hid hw5; clear hw5
        have HONE' := Lib.hid ONE'; clear ONE'
        have HB6 := Lib.hid B6; clear B6
        have HN6 := Lib.hid N6; clear N6
        clear FR6 FR5 FX5 B5 N5
        go_wp2_with (first | (refine wpList_store_mid rfl _ _ _ rfl (w.heap.size + 1) 0 (List.toArray (AidG.cells ⟨z.a, A1, k1, B1, d1⟩)) rfl rfl HT4.out (by kernel_rfl) HONE'.out ?_; rw [show w4.setCells (w.heap.size + 1) 0 (List.toArray (AidG.cells ⟨z.a, A1, k1, B1, d1⟩)).toList = w5 from HW5.out]))
        refine bodyPost_ret (v := AidG.val ⟨z.a, A1, k1, B1, d1⟩) (by simp [results, Tryz.results29, go_sem, r0, r1, r2, r3, r4, r5, r6, r7, r8, r9, r10, r11, r12, r13, r14, r15]) rfl ⟨_, rfl, rfl, ⟨own_base HN6.out.g (by omega), own_base HN6.out.s (by omega)⟩, HB6.out⟩
  · go_simp
    skip
    refine hK.out _ _ ?_ (fun hHeld => ?_)
    · exact trivial
    clear hK K
    try simp only [Act.put, List.setIfInBounds_toArray, List.set_cons_zero, List.set_cons_succ, List.getElem_toArray, List.getElem_cons_zero, List.getElem_cons_succ]
    refine wpAnyH_ready (rs := [2]) (by kernel_rfl) (by simp) ?_
    refine AllReadyH.cons (o := _) rfl (fun K hK => ?_) AllReadyH.nil
    go_simp
    skip
    refine hK.out _ _ ?_ (fun hHeld => ?_)
    · exact trivial
    clear hK K
    try simp only [Act.put, List.setIfInBounds_toArray, List.set_cons_zero, List.set_cons_succ, List.getElem_toArray, List.getElem_cons_zero, List.getElem_cons_succ]
    refine wpAnyH_ready (rs := [3]) (by kernel_rfl) (by simp) ?_
    refine AllReadyH.cons (o := _) rfl (fun K hK => ?_) AllReadyH.nil
    go_simp
    (refine (HC3.out _ (Below.refl _ _).drew).mono ?_; rintro e w1 ⟨A1, k1, rfl, ho1, hb1'⟩; have hb1 := (Below.refl w0.heap.size w0).drew.trans hb1'; have y14 := (keepC hb1 w.heap.size hX 14).trans x14)
    refine hK.out _ _ ?_ (fun hHeld => ?_)
    · exact trivial
    clear hK K
    try simp only [Act.put, List.setIfInBounds_toArray, List.set_cons_zero, List.set_cons_succ, List.getElem_toArray, List.getElem_cons_zero, List.getElem_cons_succ]
    (first
      | (refine wpAnyH_take (i := 7) (v := ?_) rfl (by kernel_rfl) (by kernel_rfl) (by kernel_rfl) (fun _ _ _ h => h) (Or.inl ⟨by rfl, ?_⟩) (by assumption) ?_
         rotate_left
         focus (intro wq hSq; (try dsimp only at hSq); go_simp; (try (with_reducible rfl)); done))
      | (refine wpAnyH_take (i := 7) (v := undef) rfl (by kernel_rfl) (by kernel_rfl) (by kernel_rfl) (fun _ _ _ h => h) (Or.inr ⟨by rfl, rfl⟩) (by assumption) ?_)
      | fail "take 7")
    try simp only [Act.put, List.setIfInBounds_toArray, List.set_cons_zero, List.set_cons_succ, List.getElem_toArray, List.getElem_cons_zero, List.getElem_cons_succ]
    (first
      | (refine wpAnyH_take (i := 8) (v := ?_) rfl (by kernel_rfl) (by kernel_rfl) (by kernel_rfl) (fun _ _ _ h => h) (Or.inl ⟨by rfl, ?_⟩) (by assumption) ?_
         rotate_left
         focus (intro wq hSq; (try dsimp only at hSq); go_simp; (try (with_reducible rfl)); done))
      | (refine wpAnyH_take (i := 8) (v := undef) rfl (by kernel_rfl) (by kernel_rfl) (by kernel_rfl) (fun _ _ _ h => h) (Or.inr ⟨by rfl, rfl⟩) (by assumption) ?_)
      | fail "take 8")
    try simp only [Act.put, List.setIfInBounds_toArray, List.set_cons_zero, List.set_cons_succ, List.getElem_toArray, List.getElem_cons_zero, List.getElem_cons_succ]
    refine wpAnyH_ready (rs := [6]) (by kernel_rfl) (by simp) ?_
    refine AllReadyH.cons (o := _) rfl (fun K hK => ?_) AllReadyH.nil
    go_simp
    (refine (HC6.out _ hb1).mono ?_; rintro e w2 ⟨B1, d1, rfl, ho2, hb2'⟩)
    refine hK.out _ _ ?_ (fun hHeld => ?_)
    · exact trivial
    clear hK K
    try simp only [Act.put, List.setIfInBounds_toArray, List.set_cons_zero, List.set_cons_succ, List.getElem_toArray, List.getElem_cons_zero, List.getElem_cons_succ]
    have hb2 := hb1.trans (hb2'.mono hb1.size)
    have FX2 := HX0.out.next hb2
    have FR2 := HR0.out.next hb2
    have g10 := FX2.p.c10
    have g14 := FX2.p.c14
    have gf := FX2.f
    simp only [Nat.zero_add] at g10 g14
    have ho1' := own_next ho1 hb2'
    have hbw2 := hb0.trans (hb2.mono hb0.size)
    refine wpAnyH_ready (rs := [9]) (by kernel_rfl) (by simp) ?_
    refine AllReadyH.cons (o := _) rfl (fun K hK => ?_) AllReadyH.nil
    go_simp
    skip
    refine hK.out _ _ ?_ (fun hHeld => ?_)
    · exact trivial
    clear hK K
    try simp only [Act.put, List.setIfInBounds_toArray, List.set_cons_zero, List.set_cons_succ, List.getElem_toArray, List.getElem_cons_zero, List.getElem_cons_succ]
    (first
      | (refine wpAnyH_take (i := 10) (v := ?_) rfl (by kernel_rfl) (by kernel_rfl) (by kernel_rfl) (fun _ _ _ h => h) (Or.inl ⟨by rfl, ?_⟩) (by assumption) ?_
         rotate_left
         focus (intro wq hSq; (try dsimp only at hSq); go_simp; (try (with_reducible rfl)); done))
      | (refine wpAnyH_take (i := 10) (v := undef) rfl (by kernel_rfl) (by kernel_rfl) (by kernel_rfl) (fun _ _ _ h => h) (Or.inr ⟨by rfl, rfl⟩) (by assumption) ?_)
      | fail "take 10")
    try simp only [Act.put, List.setIfInBounds_toArray, List.set_cons_zero, List.set_cons_succ, List.getElem_toArray, List.getElem_cons_zero, List.getElem_cons_succ]
    refine wpAnyH_ready (rs := [11]) (by kernel_rfl) (by simp) ?_
    refine AllReadyH.cons (o := _) rfl (fun K hK => ?_) AllReadyH.nil
    go_simp
    skip
    refine hK.out _ _ ?_ (fun hHeld => ?_)
    · exact trivial
    clear hK K
    try simp only [Act.put, List.setIfInBounds_toArray, List.set_cons_zero, List.set_cons_succ, List.getElem_toArray, List.getElem_cons_zero, List.getElem_cons_succ]
    refine wpAnyH_done (by kernel_rfl) ?_ _
    have FX4 := (FX2.group A1 k1).secs B1 d1
    have FR3 := FR2.other w.heap.size 10 [.slice A1 z.n k1] (by omega)
    have FR4 := FR3.other w.heap.size 14 [.slice B1 z.m d1] (by omega)
    have B4 := belowW w.heap.size (Nat.le_refl _) [.slice B1 z.m d1] 14 _ (belowW w.heap.size (Nat.le_refl _) [.slice A1 z.n k1] 10 _ hbw2)
    have G4 := ownW w.heap.size hX [.slice B1 z.m d1] 14 _ (ownW w.heap.size hX [.slice A1 z.n k1] 10 _ ho1')
    have E4 := ownW w.heap.size (by have := hb1.size; omega) [.slice B1 z.m d1] 14 _ (ownW w.heap.size (by have := hb1.size; omega) [.slice A1 z.n k1] 10 _ ho2)
    refine then_worldA (F := fun w4 => AidF w4 w.heap.size ⟨z.a, A1, k1, B1, d1⟩ ∧ AidF w4 (w.heap.size + 1) aidZ ∧ Below w.heap.size w w4 ∧ AidNew w4 (w.heap.size + 2) ⟨z.a, A1, k1, B1, d1⟩) ⟨FX4, FR4, B4, ⟨own_base G4 (show w.heap.size + 2 ≤ w0.heap.size by omega), own_base E4 (by have := hb1.size; omega)⟩⟩ ?_
    clear FX4 FR3 FR4 B4 G4 E4 FX2 FR2 g10 g14 gf ho1' hbw2 hb2 ho1 ho2 hb2' hb1 hb1' y14 hHeld
    rintro w4 ⟨FX5, FR5, B5, N5⟩
    as_aux_lemma =>
      obtain ⟨c0, c1, c2, c3, c4, c5, c6, c7, c8, c9, c10, c11, c12, c13, c14, c15, _⟩ := FX5.p
      simp only [Nat.zero_add] at c1 c2 c3 c4 c5 c6 c7 c8 c9 c10 c11 c12 c13 c14 c15
      have T4 := FR5.there 0 16 (by omega)
      have FR6 := FR5.set ⟨z.a, A1, k1, B1, d1⟩
      have B6 := belowW (w.heap.size + 1) (by omega) (AidG.cells ⟨z.a, A1, k1, B1, d1⟩) 0 _ B5
      have N6 : AidNew (w4.setCells (w.heap.size + 1) 0 (AidG.cells ⟨z.a, A1, k1, B1, d1⟩)) (w.heap.size + 2) ⟨z.a, A1, k1, B1, d1⟩ := ⟨ownW (w.heap.size + 1) (by omega) _ 0 _ N5.g, ownW (w.heap.size + 1) (by omega) _ 0 _ N5.s⟩
      obtain ⟨w5, hw5⟩ : ∃ w5, w4.setCells (w.heap.size + 1) 0 (AidG.cells ⟨z.a, A1, k1, B1, d1⟩) = w5 := ⟨_, rfl⟩
      rw [hw5] at FR6 B6 N6
      obtain ⟨r0, r1, r2, r3, r4, r5, r6, r7, r8, r9, r10, r11, r12, r13, r14, r15, _⟩ := FR6.p
      simp only [Nat.zero_add] at r1 r2 r3 r4 r5 r6 r7 r8 r9 r10 r11 r12 r13 r14 r15
      have ONE' : (List.toArray (AidG.cells ⟨z.a, A1, k1, B1, d1⟩)).all (·.oneCell') = true := all_oneCell_toArray (aidg_one _)
      have HT4 := Lib.hid T4; clear T4
      have HW5 := Lib.hid hw5; clear hw5
      have HONE' := Lib.hid ONE'; clear ONE'
      have HB6 := Lib.hid B6; clear B6
      have HN6 := Lib.hid N6; clear N6
      clear FR6 FR5 FX5 B5 N5
      go_wp2_with (first | (refine wpList_store_mid rfl _ _ _ rfl (w.heap.size + 1) 0 (List.toArray (AidG.cells ⟨z.a, A1, k1, B1, d1⟩)) rfl rfl HT4.out (by kernel_rfl) HONE'.out ?_; rw [show w4.setCells (w.heap.size + 1) 0 (List.toArray (AidG.cells ⟨z.a, A1, k1, B1, d1⟩)).toList = w5 from HW5.out]))
      refine bodyPost_ret (v := AidG.val ⟨z.a, A1, k1, B1, d1⟩) (by simp [results, Tryz.results29, go_sem, r0, r1, r2, r3, r4, r5, r6, r7, r8, r9, r10, r11, r12, r13, r14, r15]) rfl ⟨_, rfl, rfl, ⟨own_base HN6.out.g (by omega), own_base HN6.out.s (by omega)⟩, HB6.out⟩
end Go.Proofs.YtpfnnjcochhklaaGreatDoor
