/- The text of a character: CharacterText, both sides. -/
import Derived.Test.YtomjdkjkdmieaaaDoorChTxH
import Derived.Test.YtomjdkjkdmieaaaDoorChTxS2
namespace Go.Proofs.YtomjdkjkdmieaaaDoor
open Go.RowKit
set_option maxRecDepth 100000 in
set_option maxHeartbeats 1000000 in
theorem specText_c (A : Option Addr) (n c : Nat) (x : Ch) (w : World) (sl : Sl w w.heap.size 1 A n (x.gs.flatMap intC)) (hn : n ≤ 1048576) (hlz : x.l.size ≤ 1048576) (hs : x.cs.size ≤ 1048576) :
    Calls Tryd.prog 6 #[chV x.k A n c x.l x.cs x.p] w fun e w' => e = .returned (.string (charX x)) ∧ Below w.heap.size w w' := by
  have hb0 : Below w.heap.size w (w.alloc (chOT A n c x 27)) := by (repeat (first | (with_reducible assumption) | (with_reducible exact Below.refl _ _) | exact Nat.le_refl _ | exact Below.size (by with_reducible assumption) | (with_reducible refine Below.drew ?_) | (with_reducible refine below_drewN ?_ _) | (with_reducible refine Below.alloc ?_ ?_ _) | (with_reducible refine Below.setCell ?_ ?_ _) | (with_reducible refine le_alloc ?_ _) | (with_reducible refine le_set ?_ _ _) | (with_reducible refine le_drew ?_) | (with_reducible refine le_drewN ?_ _) | omega | (dsimp only; omega)))
  have hp := chp_box (c := c) 27 sl hn hlz hs
  obtain ⟨w0, hw⟩ : ∃ w0, w.alloc (chOT A n c x 27) = w0 := ⟨_, rfl⟩
  rw [hw] at hb0 hp
  have hO := l05Ok_c w.heap.size 0 A n c x w0 hp
  have hT : ∀ w1, Below w0.heap.size w0 w1 → validB x = true → Calls Tryd.prog 14 #[.pointer (some ⟨w.heap.size, 0, none⟩)] w1 fun e w' => e = .returned (.string (charT x)) ∧ Below w1.heap.size w1 w' := fun w1 hb hv => l05Text_c w.heap.size 0 A n c x w1 (hp.next hb) hv
  rw [charX]
  obtain ⟨V, hV⟩ : ∃ V, validB x = V := ⟨_, rfl⟩
  rw [hV] at hO hT ⊢
  have HO := Lib.hid hO; clear hO
  have HT := Lib.hid hT; clear hT
  clear hV hp
  go_enter Tryd.func6, Tryd.ntmps6
  go_wp2_with fail
  try rw [hw]
  clear hw
  refine HO.out.mono ?_
  rintro e w1 ⟨rfl, hb1⟩
  cases V
  · go_wp2_with fail
    go_ret
    exact ⟨rfl, hb0.trans (hb1.mono hb0.size)⟩
  · go_wp2_with fail
    refine (HT.out _ hb1 (by trivial)).mono ?_
    rintro e w2 ⟨rfl, hb2⟩
    go_wp2_with fail
    go_ret
    exact ⟨rfl, hb0.trans ((hb1.trans (hb2.mono hb1.size)).mono hb0.size)⟩
theorem headT_len {x : Ch} (h : validB x = true) : (headT x).size ≤ 100 := by
  obtain ⟨hk, h4, hgs, h8, hn8⟩ := fits_cases h
  have hT := kindT_len (k := x.k) (by omega) (by omega)
  unfold headT
  split
  · rename_i hk8
    have := (h8 hk8).2
    rw [hk8] at hT
    simp only [ByteArray.size_append]
    have : (⟨#[40]⟩ : ByteArray).size = 1 := rfl
    have : (⟨#[41]⟩ : ByteArray).size = 1 := rfl
    omega
  · have h1 : (grpX x.gs).size ≤ 90 := by
      unfold grpX
      split
      · decide
      · rw [ByteArray.size_append]
        have := grpT_len hgs x.gs.length
        have : (⟨#[41]⟩ : ByteArray).size = 1 := rfl
        omega
    have h2 : (ltrX x.l).size ≤ 4 := by
      unfold ltrX
      split
      · decide
      · decide
    simp only [ByteArray.size_append]
    omega
set_option maxRecDepth 100000 in
set_option maxHeartbeats 2000000 in
theorem implText_c (A : Option Addr) (n c : Nat) (x : Ch) (w : World) (sl : Sl w w.heap.size 1 A n (x.gs.flatMap intC)) (hn : n ≤ 1048576) (hlz : x.l.size ≤ 1048576) (hs : x.cs.size ≤ 1048576) (ht : Tab10 w) :
    Calls Tryd.prog 8 #[chV x.k A n c x.l x.cs x.p] w fun e w' => e = .returned (.string (charX x)) ∧ Below w.heap.size w w' := by
  have hb0 : Below w.heap.size w (w.alloc (chOT A n c x 27)) := by (repeat (first | (with_reducible assumption) | (with_reducible exact Below.refl _ _) | exact Nat.le_refl _ | exact Below.size (by with_reducible assumption) | (with_reducible refine Below.drew ?_) | (with_reducible refine below_drewN ?_ _) | (with_reducible refine Below.alloc ?_ ?_ _) | (with_reducible refine Below.setCell ?_ ?_ _) | (with_reducible refine le_alloc ?_ _) | (with_reducible refine le_set ?_ _ _) | (with_reducible refine le_drew ?_) | (with_reducible refine le_drewN ?_ _) | omega | (dsimp only; omega)))
  obtain ⟨c0, c1, c2, c3, c4, hba, -, -, -, -⟩ := chp_box (c := c) 27 sl hn hlz hs
  simp only [Nat.zero_add] at c1 c2 c3 c4
  obtain ⟨w0, hw⟩ : ∃ w0, w.alloc (chOT A n c x 27) = w0 := ⟨_, rfl⟩
  rw [hw] at hb0 c0 c1 c2 c3 c4 hba
  have sl0 := sl.next hb0
  have ht0 := ht.next hb0
  have hO := implValid_c A n c x w0 sl0 hn hlz hs
  rw [charX]
  cases hV : validB x
  · rw [hV] at hO
    have HO := Lib.hid hO; clear hO
    have HV := Lib.hid hV; clear hV
    clear ht ht0
    go_enter Tryd.func8, Tryd.ntmps8
    go_wp2_with fail
    try rw [hw]
    clear hw
    refine HO.out.mono ?_
    rintro e w1 ⟨rfl, hb1⟩
    go_wp2_with fail
    go_ret
    exact ⟨rfl, hb0.trans (hb1.mono hb0.size)⟩
  · rw [hV] at hO
    obtain ⟨hp0, hp6⟩ := valid_p hV
    have hcl : x.cs.size ≤ 3 := by
      have h1 := valid_shape hV
      simp only [shapeB, colorsB, Bool.and_eq_true, decide_eq_true_eq] at h1
      omega
    obtain ⟨H, hHe⟩ : ∃ H, headT x = H := ⟨_, rfl⟩
    have hHl : H.size ≤ 100 := hHe ▸ headT_len hV
    have hHd : ∀ w1, Below w0.heap.size w0 w1 → Calls Tryd.prog 17 #[chV x.k A n c x.l x.cs x.p] w1 fun e w' => e = .returned (.string H) ∧ Below w1.heap.size w1 w' := fun w1 hb => hHe ▸ headText_c A n c x w1 (sl0.next hb) hn hlz hs hV (ht0.next hb)
    obtain ⟨Z, hZ⟩ : ∃ Z, secT x.p = Z := ⟨_, rfl⟩
    have hZl : Z.size ≤ 50 := hZ ▸ secT_len hp0 hp6
    have hSe : ∀ w1, Below w0.heap.size w0 w1 → Calls Tryd.prog 18 #[.int .i64 x.p] w1 fun e w' => e = .returned (.string Z) ∧ Below w1.heap.size w1 w' := fun w1 hb => hZ ▸ secondsText_c x.p w1 hp0 hp6 (ht0.next hb)
    have hC : charT x = H ++ (⟨#[32]⟩ ++ (x.cs ++ perT x.p)) := by rw [charT, hHe]
    have v1 : ¬ 9223372036854775807 < H.size + 1 := by omega
    have v2 : ¬ 9223372036854775807 < H.size + 1 + x.cs.size := by omega
    have v3 : ¬ 9223372036854775807 < 1 + Z.size := by omega
    have v4 : ¬ 9223372036854775807 < 1 + Z.size + 1 := by omega
    have v5 : ¬ 9223372036854775807 < H.size + 1 + x.cs.size + (1 + Z.size + 1) := by omega
    have HO := Lib.hid hO; clear hO
    have HV := Lib.hid hV; clear hV
    have HHd := Lib.hid hHd; clear hHd
    have HSe := Lib.hid hSe; clear hSe
    have HC := Lib.hid hC; clear hC
    have HHe := Lib.hid hHe; clear hHe
    have HZ := Lib.hid hZ; clear hZ
    clear ht ht0
    go_enter Tryd.func8, Tryd.ntmps8
    go_wp2_with fail
    try rw [hw]
    clear hw
    refine HO.out.mono ?_
    rintro e w1 ⟨rfl, hb1⟩
    have r1 := keepC hb1 w.heap.size hba
    have z1 : w.heap.size < w1.heap.size := Nat.lt_of_lt_of_le hba hb1.size
    have d0 := (r1 _).trans c0
    have d1 := (r1 _).trans c1
    have d2 := (r1 _).trans c2
    have d3 := (r1 _).trans c3
    have d4 := (r1 _).trans c4
    clear c0 c1 c2 c3 c4 r1
    go_wp2_with fail
    have e1 : ∀ {w' : World}, Below w1.heap.size w1 w' → (Below w1.heap.size w1 w' ∧ (∀ i, w'.cell? ⟨w.heap.size, i, none⟩ = w1.cell? ⟨w.heap.size, i, none⟩)) := fun hb => ⟨hb, keepC hb _ z1⟩
    refine wp_region_held_drew (S := fun w' => Below w1.heap.size w1 w' ∧ (∀ i, w'.cell? ⟨w.heap.size, i, none⟩ = w1.cell? ⟨w.heap.size, i, none⟩)) (by kernel_rfl) (e1 (Below.refl _ _).drew) (fun hHeld => ?_)
    (first
      | (refine wpAnyH_take (i := 0) (v := ?_) rfl (by kernel_rfl) (by kernel_rfl) (by kernel_rfl) (fun _ _ _ h => h) (Or.inl ⟨by rfl, ?_⟩) (by assumption) ?_
         rotate_left
         focus (intro wq hSq; (try dsimp only at hSq); go_simp; (try (with_reducible rfl)); done))
      | (refine wpAnyH_take (i := 0) (v := undef) rfl (by kernel_rfl) (by kernel_rfl) (by kernel_rfl) (fun _ _ _ h => h) (Or.inr ⟨by rfl, rfl⟩) (by assumption) ?_)
      | fail "take 0")
    try simp only [Act.put, List.setIfInBounds_toArray, List.set_cons_zero, List.set_cons_succ, List.getElem_toArray, List.getElem_cons_zero]
    (first
      | (refine wpAnyH_take (i := 3) (v := ?_) rfl (by kernel_rfl) (by kernel_rfl) (by kernel_rfl) (fun _ _ _ h => h) (Or.inl ⟨by rfl, ?_⟩) (by assumption) ?_
         rotate_left
         focus (intro wq hSq; (try dsimp only at hSq); go_simp; (try (with_reducible rfl)); done))
      | (refine wpAnyH_take (i := 3) (v := undef) rfl (by kernel_rfl) (by kernel_rfl) (by kernel_rfl) (fun _ _ _ h => h) (Or.inr ⟨by rfl, rfl⟩) (by assumption) ?_)
      | fail "take 3")
    try simp only [Act.put, List.setIfInBounds_toArray, List.set_cons_zero, List.set_cons_succ, List.getElem_toArray, List.getElem_cons_zero, List.getElem_cons_succ]
    (first
      | (refine wpAnyH_take (i := 4) (v := ?_) rfl (by kernel_rfl) (by kernel_rfl) (by kernel_rfl) (fun _ _ _ h => h) (Or.inl ⟨by rfl, ?_⟩) (by assumption) ?_
         rotate_left
         focus (intro wq hSq; (try dsimp only at hSq); go_simp; (try (with_reducible rfl)); done))
      | (refine wpAnyH_take (i := 4) (v := undef) rfl (by kernel_rfl) (by kernel_rfl) (by kernel_rfl) (fun _ _ _ h => h) (Or.inr ⟨by rfl, rfl⟩) (by assumption) ?_)
      | fail "take 4")
    try simp only [Act.put, List.setIfInBounds_toArray, List.set_cons_zero, List.set_cons_succ, List.getElem_toArray, List.getElem_cons_zero, List.getElem_cons_succ]
    refine wpAnyH_ready (rs := [1]) (by kernel_rfl) (by simp) ?_
    refine AllReadyH.cons (o := _) rfl (fun K hK => ?_) AllReadyH.nil
    go_simp
    refine (HHd.out _ (hb1.trans ((Below.refl w1.heap.size w1).drew.mono hb1.size))).mono ?_; rintro e w2 ⟨rfl, hb2⟩; have hb12 : Below w1.heap.size w1 w2 := (Below.refl _ _).drew.trans hb2
    refine hK.out _ _ ?_ (fun hHeld => ?_)
    · exact e1 hb12
    clear hK K
    try simp only [Act.put, List.setIfInBounds_toArray, List.set_cons_zero, List.set_cons_succ, List.getElem_toArray, List.getElem_cons_zero, List.getElem_cons_succ]
    (first
      | (refine wpAnyH_take (i := 2) (v := ?_) rfl (by kernel_rfl) (by kernel_rfl) (by kernel_rfl) (fun _ _ _ h => h) (Or.inl ⟨by rfl, ?_⟩) (by assumption) ?_
         rotate_left
         focus (intro wq hSq; (try dsimp only at hSq); go_simp; (try (with_reducible rfl)); done))
      | (refine wpAnyH_take (i := 2) (v := undef) rfl (by kernel_rfl) (by kernel_rfl) (by kernel_rfl) (fun _ _ _ h => h) (Or.inr ⟨by rfl, rfl⟩) (by assumption) ?_)
      | fail "take 2")
    try simp only [Act.put, List.setIfInBounds_toArray, List.set_cons_zero, List.set_cons_succ, List.getElem_toArray, List.getElem_cons_zero, List.getElem_cons_succ]
    (first
      | (refine wpAnyH_take (i := 5) (v := ?_) rfl (by kernel_rfl) (by kernel_rfl) (by kernel_rfl) (fun _ _ _ h => h) (Or.inl ⟨by rfl, ?_⟩) (by assumption) ?_
         rotate_left
         focus (intro wq hSq; (try dsimp only at hSq); go_simp; (try (with_reducible rfl)); done))
      | (refine wpAnyH_take (i := 5) (v := undef) rfl (by kernel_rfl) (by kernel_rfl) (by kernel_rfl) (fun _ _ _ h => h) (Or.inr ⟨by rfl, rfl⟩) (by assumption) ?_)
      | fail "take 5")
    try simp only [Act.put, List.setIfInBounds_toArray, List.set_cons_zero, List.set_cons_succ, List.getElem_toArray, List.getElem_cons_zero, List.getElem_cons_succ]
    (first
      | (refine wpAnyH_take (i := 6) (v := ?_) rfl (by kernel_rfl) (by kernel_rfl) (by kernel_rfl) (fun _ _ _ h => h) (Or.inl ⟨by rfl, ?_⟩) (by assumption) ?_
         rotate_left
         focus (intro wq hSq; (try dsimp only at hSq); go_simp; (try (with_reducible rfl)); done))
      | (refine wpAnyH_take (i := 6) (v := undef) rfl (by kernel_rfl) (by kernel_rfl) (by kernel_rfl) (fun _ _ _ h => h) (Or.inr ⟨by rfl, rfl⟩) (by assumption) ?_)
      | fail "take 6")
    try simp only [Act.put, List.setIfInBounds_toArray, List.set_cons_zero, List.set_cons_succ, List.getElem_toArray, List.getElem_cons_zero, List.getElem_cons_succ]
    refine wpAnyH_done (by kernel_rfl) ?_ _
    have r2 := keepC hb12 w.heap.size z1
    have hbw := hb1.trans (hb12.mono hb1.size)
    clear hHeld e1 hb2
    by_cases hp : x.p = 0
    · have hF : charT x = H ++ ⟨#[32]⟩ ++ x.cs := by rw [HC.out, hp, perT, if_pos rfl, bempty, bassoc]
      have hpz : (x.p == 0) = true := by simpa using hp
      have HF := Lib.hid hF; clear hF
      have Hp := Lib.hid hp; clear hp
      go_wp2_with fail
      go_ret
      exact ⟨ret_eq (congrArg Value.string HF.out.symm), hb0.trans (hbw.mono hb0.size)⟩
    · have hF : charT x = H ++ ⟨#[32]⟩ ++ x.cs ++ (⟨#[32]⟩ ++ Z ++ ⟨#[115]⟩) := by
        rw [HC.out, perT, if_neg hp, HZ.out]
        simp only [bassoc]
      have hpz : (x.p == 0) = false := by simpa using hp
      have HF := Lib.hid hF; clear hF
      have Hp := Lib.hid hp; clear hp
      go_wp2_with fail
      refine (HSe.out _ hbw).mono ?_
      rintro e w4 ⟨rfl, hb4⟩
      go_wp2_with fail
      go_ret
      exact ⟨ret_eq (congrArg Value.string HF.out.symm), hb0.trans ((hbw.trans (hb4.mono hbw.size)).mono hb0.size)⟩
end Go.Proofs.YtomjdkjkdmieaaaDoor
